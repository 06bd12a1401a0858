/-
  No cell of these rows narrows 'for every input' (looked for: loops, veiled, ifaces, maps, wideKeys, modest, calm, conditions, laid).
  DERIVED. THE GIVEN ROWS OF THIS SEAT. 13 by the template 'for every input the law returns true; each argument reads behind the call as it read before'; 0 by the template 'total and deterministic' (their statements: YtgdokjfjmcleeaaTotals.lean).
  GIVEN WITH THE SEED: the statements are not yours to turn. If you find one false, say at which input.
  Laid BY PROGRAM, IN A SANDBOX (cutbox-rows.mjs): the forced cells as the released guide's own fill.sh prints them over the translation 6b05d50fc37b9b16… (all of the seat's roots in one cut). By AI agents, Wed Nov 11 2026. No macro, syntax, notation, axiom, sorry.
-/
import Derived.Test.YtgdokjfjmcleeaaChecked
import GoSem.Claim
import GoSem.ClaimJoined
import GoSem.ClaimMapViews
import Derived.JoinedTies
import Derived.KernelRfl
namespace Go.Proofs.Ytgdokjfjmcleeaa
/- THE CELL 'sum', in the pinned program and in every row, IS THE sha256 OF THE DUMP (.gsa) THAT YtgdokjfjmcleeaaProg.lean LOADS. Nothing in Lean hashes anything: it is a label: what it is worth is what the hold of that sum in a sandbox is worth. -/
noncomputable def Try.pinned : Pinned := { name := "ytgdokjfjmcleeaa", sum := "6b05d50fc37b9b16d17329e8e1066452654917160c176b9a8d551866a0b1512b", checked := Try.checked }
namespace Rows
def none {H : Type} : Left H := { results := [], args := [] }

/-- 'wreckagelaw05.LayoutSizes': WHATEVER THE INPUT: true; the input reads as it did. -/
def layoutSizesSpec : ChangeSpec := { name := "layoutSizes", fn := fun _ => fun
  | [d1, d2, d3, d4] => { results := [.lit (.bool true)], args := [d1, d2, d3, d4] }
  | _ => none }
def layoutSizesRow : OpenClaim := { program := "ytgdokjfjmcleeaa", sum := "6b05d50fc37b9b16d17329e8e1066452654917160c176b9a8d551866a0b1512b", func := "wreckage/wreckagelaw05.LayoutSizes", spec := "layoutSizes", unfollowed := true, recurses := true, plainKeys := false, apart := false }
def LayoutSizesSaid : Prop := layoutSizesRow.holds Try.pinned (OpenSpec.ofChange layoutSizesSpec)

/-- ITS FALSE NEIGHBOUR: 'it returns false'. Refute it at one input. -/
def layoutSizesWrong : ChangeSpec := { name := "layoutSizes", fn := fun _ => fun
  | [d1, d2, d3, d4] => { results := [.lit (.bool false)], args := [d1, d2, d3, d4] }
  | _ => none }
def LayoutSizesWrongFalsely : Prop := layoutSizesRow.holds Try.pinned (OpenSpec.ofChange layoutSizesWrong)

/-- 'wreckagelaw05.LayoutCells': WHATEVER THE INPUT: true; the input reads as it did. -/
def layoutCellsSpec : ChangeSpec := { name := "layoutCells", fn := fun _ => fun
  | [d1, d2] => { results := [.lit (.bool true)], args := [d1, d2] }
  | _ => none }
def layoutCellsRow : OpenClaim := { program := "ytgdokjfjmcleeaa", sum := "6b05d50fc37b9b16d17329e8e1066452654917160c176b9a8d551866a0b1512b", func := "wreckage/wreckagelaw05.LayoutCells", spec := "layoutCells", unfollowed := true, recurses := true, plainKeys := false, apart := false }
def LayoutCellsSaid : Prop := layoutCellsRow.holds Try.pinned (OpenSpec.ofChange layoutCellsSpec)

/-- ITS FALSE NEIGHBOUR: 'it returns false'. Refute it at one input. -/
def layoutCellsWrong : ChangeSpec := { name := "layoutCells", fn := fun _ => fun
  | [d1, d2] => { results := [.lit (.bool false)], args := [d1, d2] }
  | _ => none }
def LayoutCellsWrongFalsely : Prop := layoutCellsRow.holds Try.pinned (OpenSpec.ofChange layoutCellsWrong)

/-- 'wreckagelaw05.LayoutParts': WHATEVER THE INPUT: true; the input reads as it did. -/
def layoutPartsSpec : ChangeSpec := { name := "layoutParts", fn := fun _ => fun
  | [d1, d2] => { results := [.lit (.bool true)], args := [d1, d2] }
  | _ => none }
def layoutPartsRow : OpenClaim := { program := "ytgdokjfjmcleeaa", sum := "6b05d50fc37b9b16d17329e8e1066452654917160c176b9a8d551866a0b1512b", func := "wreckage/wreckagelaw05.LayoutParts", spec := "layoutParts", unfollowed := true, recurses := true, plainKeys := false, apart := false }
def LayoutPartsSaid : Prop := layoutPartsRow.holds Try.pinned (OpenSpec.ofChange layoutPartsSpec)

/-- ITS FALSE NEIGHBOUR: 'it returns false'. Refute it at one input. -/
def layoutPartsWrong : ChangeSpec := { name := "layoutParts", fn := fun _ => fun
  | [d1, d2] => { results := [.lit (.bool false)], args := [d1, d2] }
  | _ => none }
def LayoutPartsWrongFalsely : Prop := layoutPartsRow.holds Try.pinned (OpenSpec.ofChange layoutPartsWrong)

/-- 'wreckagelaw05.LayoutAligned': WHATEVER THE INPUT: true; the input reads as it did. -/
def layoutAlignedSpec : ChangeSpec := { name := "layoutAligned", fn := fun _ => fun
  | [d1, d2] => { results := [.lit (.bool true)], args := [d1, d2] }
  | _ => none }
def layoutAlignedRow : OpenClaim := { program := "ytgdokjfjmcleeaa", sum := "6b05d50fc37b9b16d17329e8e1066452654917160c176b9a8d551866a0b1512b", func := "wreckage/wreckagelaw05.LayoutAligned", spec := "layoutAligned", unfollowed := true, recurses := true, plainKeys := false, apart := false }
def LayoutAlignedSaid : Prop := layoutAlignedRow.holds Try.pinned (OpenSpec.ofChange layoutAlignedSpec)

/-- ITS FALSE NEIGHBOUR: 'it returns false'. Refute it at one input. -/
def layoutAlignedWrong : ChangeSpec := { name := "layoutAligned", fn := fun _ => fun
  | [d1, d2] => { results := [.lit (.bool false)], args := [d1, d2] }
  | _ => none }
def LayoutAlignedWrongFalsely : Prop := layoutAlignedRow.holds Try.pinned (OpenSpec.ofChange layoutAlignedWrong)

/-- 'wreckagelaw05.LayoutMade': WHATEVER THE INPUT: true; the input reads as it did. -/
def layoutMadeSpec : ChangeSpec := { name := "layoutMade", fn := fun _ => fun
  | [d1, d2] => { results := [.lit (.bool true)], args := [d1, d2] }
  | _ => none }
def layoutMadeRow : OpenClaim := { program := "ytgdokjfjmcleeaa", sum := "6b05d50fc37b9b16d17329e8e1066452654917160c176b9a8d551866a0b1512b", func := "wreckage/wreckagelaw05.LayoutMade", spec := "layoutMade", unfollowed := true, recurses := true, plainKeys := false, apart := false }
def LayoutMadeSaid : Prop := layoutMadeRow.holds Try.pinned (OpenSpec.ofChange layoutMadeSpec)

/-- ITS FALSE NEIGHBOUR: 'it returns false'. Refute it at one input. -/
def layoutMadeWrong : ChangeSpec := { name := "layoutMade", fn := fun _ => fun
  | [d1, d2] => { results := [.lit (.bool false)], args := [d1, d2] }
  | _ => none }
def LayoutMadeWrongFalsely : Prop := layoutMadeRow.holds Try.pinned (OpenSpec.ofChange layoutMadeWrong)

/-- 'wreckagelaw05.LayoutNames': WHATEVER THE INPUT: true; the input reads as it did. -/
def layoutNamesSpec : ChangeSpec := { name := "layoutNames", fn := fun _ => fun
  | [] => { results := [.lit (.bool true)], args := [] }
  | _ => none }
def layoutNamesRow : OpenClaim := { program := "ytgdokjfjmcleeaa", sum := "6b05d50fc37b9b16d17329e8e1066452654917160c176b9a8d551866a0b1512b", func := "wreckage/wreckagelaw05.LayoutNames", spec := "layoutNames", unfollowed := true, recurses := true, plainKeys := false, apart := false }
def LayoutNamesSaid : Prop := layoutNamesRow.holds Try.pinned (OpenSpec.ofChange layoutNamesSpec)

/-- ITS FALSE NEIGHBOUR: 'it returns false'. Refute it at one input. -/
def layoutNamesWrong : ChangeSpec := { name := "layoutNames", fn := fun _ => fun
  | [] => { results := [.lit (.bool false)], args := [] }
  | _ => none }
def LayoutNamesWrongFalsely : Prop := layoutNamesRow.holds Try.pinned (OpenSpec.ofChange layoutNamesWrong)

/-- 'wreckagelaw04.KindsNames': WHATEVER THE INPUT: true; the input reads as it did. -/
def kindsNamesSpec : ChangeSpec := { name := "kindsNames", fn := fun _ => fun
  | [] => { results := [.lit (.bool true)], args := [] }
  | _ => none }
def kindsNamesRow : OpenClaim := { program := "ytgdokjfjmcleeaa", sum := "6b05d50fc37b9b16d17329e8e1066452654917160c176b9a8d551866a0b1512b", func := "wreckage/wreckagelaw04.KindsNames", spec := "kindsNames", unfollowed := true, recurses := true, plainKeys := false, apart := false }
def KindsNamesSaid : Prop := kindsNamesRow.holds Try.pinned (OpenSpec.ofChange kindsNamesSpec)

/-- ITS FALSE NEIGHBOUR: 'it returns false'. Refute it at one input. -/
def kindsNamesWrong : ChangeSpec := { name := "kindsNames", fn := fun _ => fun
  | [] => { results := [.lit (.bool false)], args := [] }
  | _ => none }
def KindsNamesWrongFalsely : Prop := kindsNamesRow.holds Try.pinned (OpenSpec.ofChange kindsNamesWrong)

/-- 'wreckagelaw04.KindsTells': WHATEVER THE INPUT: true; the input reads as it did. -/
def kindsTellsSpec : ChangeSpec := { name := "kindsTells", fn := fun _ => fun
  | [d1, d2, d3, d4] => { results := [.lit (.bool true)], args := [d1, d2, d3, d4] }
  | _ => none }
def kindsTellsRow : OpenClaim := { program := "ytgdokjfjmcleeaa", sum := "6b05d50fc37b9b16d17329e8e1066452654917160c176b9a8d551866a0b1512b", func := "wreckage/wreckagelaw04.KindsTells", spec := "kindsTells", unfollowed := true, recurses := true, plainKeys := false, apart := false }
def KindsTellsSaid : Prop := kindsTellsRow.holds Try.pinned (OpenSpec.ofChange kindsTellsSpec)

/-- ITS FALSE NEIGHBOUR: 'it returns false'. Refute it at one input. -/
def kindsTellsWrong : ChangeSpec := { name := "kindsTells", fn := fun _ => fun
  | [d1, d2, d3, d4] => { results := [.lit (.bool false)], args := [d1, d2, d3, d4] }
  | _ => none }
def KindsTellsWrongFalsely : Prop := kindsTellsRow.holds Try.pinned (OpenSpec.ofChange kindsTellsWrong)

/-- 'wreckagelaw04.KindsFounded': WHATEVER THE INPUT: true; the input reads as it did. -/
def kindsFoundedSpec : ChangeSpec := { name := "kindsFounded", fn := fun _ => fun
  | [d1, d2, d3] => { results := [.lit (.bool true)], args := [d1, d2, d3] }
  | _ => none }
def kindsFoundedRow : OpenClaim := { program := "ytgdokjfjmcleeaa", sum := "6b05d50fc37b9b16d17329e8e1066452654917160c176b9a8d551866a0b1512b", func := "wreckage/wreckagelaw04.KindsFounded", spec := "kindsFounded", unfollowed := true, recurses := true, plainKeys := false, apart := false }
def KindsFoundedSaid : Prop := kindsFoundedRow.holds Try.pinned (OpenSpec.ofChange kindsFoundedSpec)

/-- ITS FALSE NEIGHBOUR: 'it returns false'. Refute it at one input. -/
def kindsFoundedWrong : ChangeSpec := { name := "kindsFounded", fn := fun _ => fun
  | [d1, d2, d3] => { results := [.lit (.bool false)], args := [d1, d2, d3] }
  | _ => none }
def KindsFoundedWrongFalsely : Prop := kindsFoundedRow.holds Try.pinned (OpenSpec.ofChange kindsFoundedWrong)

/-- 'wreckagelaw04.KindsReach': WHATEVER THE INPUT: true; the input reads as it did. -/
def kindsReachSpec : ChangeSpec := { name := "kindsReach", fn := fun _ => fun
  | [d1, d2, d3] => { results := [.lit (.bool true)], args := [d1, d2, d3] }
  | _ => none }
def kindsReachRow : OpenClaim := { program := "ytgdokjfjmcleeaa", sum := "6b05d50fc37b9b16d17329e8e1066452654917160c176b9a8d551866a0b1512b", func := "wreckage/wreckagelaw04.KindsReach", spec := "kindsReach", unfollowed := true, recurses := true, plainKeys := false, apart := false }
def KindsReachSaid : Prop := kindsReachRow.holds Try.pinned (OpenSpec.ofChange kindsReachSpec)

/-- ITS FALSE NEIGHBOUR: 'it returns false'. Refute it at one input. -/
def kindsReachWrong : ChangeSpec := { name := "kindsReach", fn := fun _ => fun
  | [d1, d2, d3] => { results := [.lit (.bool false)], args := [d1, d2, d3] }
  | _ => none }
def KindsReachWrongFalsely : Prop := kindsReachRow.holds Try.pinned (OpenSpec.ofChange kindsReachWrong)

/-- 'wreckagelaw04.KindsAlike': WHATEVER THE INPUT: true; the input reads as it did. -/
def kindsAlikeSpec : ChangeSpec := { name := "kindsAlike", fn := fun _ => fun
  | [d1, d2, d3, d4] => { results := [.lit (.bool true)], args := [d1, d2, d3, d4] }
  | _ => none }
def kindsAlikeRow : OpenClaim := { program := "ytgdokjfjmcleeaa", sum := "6b05d50fc37b9b16d17329e8e1066452654917160c176b9a8d551866a0b1512b", func := "wreckage/wreckagelaw04.KindsAlike", spec := "kindsAlike", unfollowed := true, recurses := true, plainKeys := false, apart := false }
def KindsAlikeSaid : Prop := kindsAlikeRow.holds Try.pinned (OpenSpec.ofChange kindsAlikeSpec)

/-- ITS FALSE NEIGHBOUR: 'it returns false'. Refute it at one input. -/
def kindsAlikeWrong : ChangeSpec := { name := "kindsAlike", fn := fun _ => fun
  | [d1, d2, d3, d4] => { results := [.lit (.bool false)], args := [d1, d2, d3, d4] }
  | _ => none }
def KindsAlikeWrongFalsely : Prop := kindsAlikeRow.holds Try.pinned (OpenSpec.ofChange kindsAlikeWrong)

/-- 'wreckagelaw04.KindsMore': WHATEVER THE INPUT: true; the input reads as it did. -/
def kindsMoreSpec : ChangeSpec := { name := "kindsMore", fn := fun _ => fun
  | [d1, d2, d3] => { results := [.lit (.bool true)], args := [d1, d2, d3] }
  | _ => none }
def kindsMoreRow : OpenClaim := { program := "ytgdokjfjmcleeaa", sum := "6b05d50fc37b9b16d17329e8e1066452654917160c176b9a8d551866a0b1512b", func := "wreckage/wreckagelaw04.KindsMore", spec := "kindsMore", unfollowed := true, recurses := true, plainKeys := false, apart := false }
def KindsMoreSaid : Prop := kindsMoreRow.holds Try.pinned (OpenSpec.ofChange kindsMoreSpec)

/-- ITS FALSE NEIGHBOUR: 'it returns false'. Refute it at one input. -/
def kindsMoreWrong : ChangeSpec := { name := "kindsMore", fn := fun _ => fun
  | [d1, d2, d3] => { results := [.lit (.bool false)], args := [d1, d2, d3] }
  | _ => none }
def KindsMoreWrongFalsely : Prop := kindsMoreRow.holds Try.pinned (OpenSpec.ofChange kindsMoreWrong)

/-- 'wreckagelaw05.LayoutAlike': WHATEVER THE INPUT: true; the input reads as it did. -/
def layoutAlikeSpec : ChangeSpec := { name := "layoutAlike", fn := fun _ => fun
  | [d1, d2, d3] => { results := [.lit (.bool true)], args := [d1, d2, d3] }
  | _ => none }
def layoutAlikeRow : OpenClaim := { program := "ytgdokjfjmcleeaa", sum := "6b05d50fc37b9b16d17329e8e1066452654917160c176b9a8d551866a0b1512b", func := "wreckage/wreckagelaw05.LayoutAlike", spec := "layoutAlike", unfollowed := true, recurses := true, plainKeys := false, apart := false }
def LayoutAlikeSaid : Prop := layoutAlikeRow.holds Try.pinned (OpenSpec.ofChange layoutAlikeSpec)

/-- ITS FALSE NEIGHBOUR: 'it returns false'. Refute it at one input. -/
def layoutAlikeWrong : ChangeSpec := { name := "layoutAlike", fn := fun _ => fun
  | [d1, d2, d3] => { results := [.lit (.bool false)], args := [d1, d2, d3] }
  | _ => none }
def LayoutAlikeWrongFalsely : Prop := layoutAlikeRow.holds Try.pinned (OpenSpec.ofChange layoutAlikeWrong)

/- THE SECOND FORM. 'bulk': how many values and letters a reading holds, each counted each time it is reached (what is shared counts as often as it is met; a slice's spare places count too). A statement '..UptoSaid' is the law's where the arguments, and the package variables that the reading takes, are together of bulk at most 1048576: NARROWER than '..Said'. Prove '..Said' where nothing that the law and all that it calls make is longer than what came in: it says more and counts as full. Else prove '..UptoSaid'. A law counts once. -/
mutual
def uptoBulk {H : Type} : DataW H → Nat
  | .lit (.string bytes) => bytes.length + 1
  | .lit _ => 1
  | .nil => 1
  | .ptr d => uptoBulk d + 1
  | .slice elems spare => uptoBulkAll elems + uptoBulkAll spare + 1
  | .agg parts => uptoBulkAll parts + 1
  | .iface _ d => uptoBulk d + 1
  | .map entries => uptoBulkEntries entries + 1
  | .held _ => 1
def uptoBulkAll {H : Type} : List (DataW H) → Nat
  | [] => 0
  | d :: r => uptoBulk d + uptoBulkAll r
def uptoBulkEntries {H : Type} : List (Lit × DataW H) → Nat
  | [] => 0
  | x :: r => uptoBulkEntry x + uptoBulkEntries r
def uptoBulkEntry {H : Type} : Lit × DataW H → Nat
  | (.string bytes, d) => bytes.length + uptoBulk d + 1
  | (_, d) => uptoBulk d + 1
 end
def uptoSmall : (H : Type) → List (DataW H) → Bool := fun _ ds => decide (uptoBulkAll ds ≤ 1048576)
def OpenSpec.upto (s : _root_.Go.ChangeSpec) : _root_.Go.OpenSpec := { _root_.Go.OpenSpec.ofChange s with cond := some uptoSmall }

/-- 'wreckagelaw05.LayoutSizes', WHERE WHAT IT READS IS OF BULK AT MOST 1048576: true; the input reads as it did. -/
def layoutSizesUptoRow : OpenClaim := { program := "ytgdokjfjmcleeaa", sum := "6b05d50fc37b9b16d17329e8e1066452654917160c176b9a8d551866a0b1512b", func := "wreckage/wreckagelaw05.LayoutSizes", spec := "layoutSizes", unfollowed := true, recurses := true, plainKeys := false, apart := false, narrowed := true }
def LayoutSizesUptoSaid : Prop := layoutSizesUptoRow.holds Try.pinned (OpenSpec.upto layoutSizesSpec)

/-- 'wreckagelaw05.LayoutCells', WHERE WHAT IT READS IS OF BULK AT MOST 1048576: true; the input reads as it did. -/
def layoutCellsUptoRow : OpenClaim := { program := "ytgdokjfjmcleeaa", sum := "6b05d50fc37b9b16d17329e8e1066452654917160c176b9a8d551866a0b1512b", func := "wreckage/wreckagelaw05.LayoutCells", spec := "layoutCells", unfollowed := true, recurses := true, plainKeys := false, apart := false, narrowed := true }
def LayoutCellsUptoSaid : Prop := layoutCellsUptoRow.holds Try.pinned (OpenSpec.upto layoutCellsSpec)

/-- 'wreckagelaw05.LayoutParts', WHERE WHAT IT READS IS OF BULK AT MOST 1048576: true; the input reads as it did. -/
def layoutPartsUptoRow : OpenClaim := { program := "ytgdokjfjmcleeaa", sum := "6b05d50fc37b9b16d17329e8e1066452654917160c176b9a8d551866a0b1512b", func := "wreckage/wreckagelaw05.LayoutParts", spec := "layoutParts", unfollowed := true, recurses := true, plainKeys := false, apart := false, narrowed := true }
def LayoutPartsUptoSaid : Prop := layoutPartsUptoRow.holds Try.pinned (OpenSpec.upto layoutPartsSpec)

/-- 'wreckagelaw05.LayoutAligned', WHERE WHAT IT READS IS OF BULK AT MOST 1048576: true; the input reads as it did. -/
def layoutAlignedUptoRow : OpenClaim := { program := "ytgdokjfjmcleeaa", sum := "6b05d50fc37b9b16d17329e8e1066452654917160c176b9a8d551866a0b1512b", func := "wreckage/wreckagelaw05.LayoutAligned", spec := "layoutAligned", unfollowed := true, recurses := true, plainKeys := false, apart := false, narrowed := true }
def LayoutAlignedUptoSaid : Prop := layoutAlignedUptoRow.holds Try.pinned (OpenSpec.upto layoutAlignedSpec)

/-- 'wreckagelaw05.LayoutMade', WHERE WHAT IT READS IS OF BULK AT MOST 1048576: true; the input reads as it did. -/
def layoutMadeUptoRow : OpenClaim := { program := "ytgdokjfjmcleeaa", sum := "6b05d50fc37b9b16d17329e8e1066452654917160c176b9a8d551866a0b1512b", func := "wreckage/wreckagelaw05.LayoutMade", spec := "layoutMade", unfollowed := true, recurses := true, plainKeys := false, apart := false, narrowed := true }
def LayoutMadeUptoSaid : Prop := layoutMadeUptoRow.holds Try.pinned (OpenSpec.upto layoutMadeSpec)

/-- 'wreckagelaw05.LayoutNames', WHERE WHAT IT READS IS OF BULK AT MOST 1048576: true; the input reads as it did. -/
def layoutNamesUptoRow : OpenClaim := { program := "ytgdokjfjmcleeaa", sum := "6b05d50fc37b9b16d17329e8e1066452654917160c176b9a8d551866a0b1512b", func := "wreckage/wreckagelaw05.LayoutNames", spec := "layoutNames", unfollowed := true, recurses := true, plainKeys := false, apart := false, narrowed := true }
def LayoutNamesUptoSaid : Prop := layoutNamesUptoRow.holds Try.pinned (OpenSpec.upto layoutNamesSpec)

/-- 'wreckagelaw04.KindsNames', WHERE WHAT IT READS IS OF BULK AT MOST 1048576: true; the input reads as it did. -/
def kindsNamesUptoRow : OpenClaim := { program := "ytgdokjfjmcleeaa", sum := "6b05d50fc37b9b16d17329e8e1066452654917160c176b9a8d551866a0b1512b", func := "wreckage/wreckagelaw04.KindsNames", spec := "kindsNames", unfollowed := true, recurses := true, plainKeys := false, apart := false, narrowed := true }
def KindsNamesUptoSaid : Prop := kindsNamesUptoRow.holds Try.pinned (OpenSpec.upto kindsNamesSpec)

/-- 'wreckagelaw04.KindsTells', WHERE WHAT IT READS IS OF BULK AT MOST 1048576: true; the input reads as it did. -/
def kindsTellsUptoRow : OpenClaim := { program := "ytgdokjfjmcleeaa", sum := "6b05d50fc37b9b16d17329e8e1066452654917160c176b9a8d551866a0b1512b", func := "wreckage/wreckagelaw04.KindsTells", spec := "kindsTells", unfollowed := true, recurses := true, plainKeys := false, apart := false, narrowed := true }
def KindsTellsUptoSaid : Prop := kindsTellsUptoRow.holds Try.pinned (OpenSpec.upto kindsTellsSpec)

/-- 'wreckagelaw04.KindsFounded', WHERE WHAT IT READS IS OF BULK AT MOST 1048576: true; the input reads as it did. -/
def kindsFoundedUptoRow : OpenClaim := { program := "ytgdokjfjmcleeaa", sum := "6b05d50fc37b9b16d17329e8e1066452654917160c176b9a8d551866a0b1512b", func := "wreckage/wreckagelaw04.KindsFounded", spec := "kindsFounded", unfollowed := true, recurses := true, plainKeys := false, apart := false, narrowed := true }
def KindsFoundedUptoSaid : Prop := kindsFoundedUptoRow.holds Try.pinned (OpenSpec.upto kindsFoundedSpec)

/-- 'wreckagelaw04.KindsReach', WHERE WHAT IT READS IS OF BULK AT MOST 1048576: true; the input reads as it did. -/
def kindsReachUptoRow : OpenClaim := { program := "ytgdokjfjmcleeaa", sum := "6b05d50fc37b9b16d17329e8e1066452654917160c176b9a8d551866a0b1512b", func := "wreckage/wreckagelaw04.KindsReach", spec := "kindsReach", unfollowed := true, recurses := true, plainKeys := false, apart := false, narrowed := true }
def KindsReachUptoSaid : Prop := kindsReachUptoRow.holds Try.pinned (OpenSpec.upto kindsReachSpec)

/-- 'wreckagelaw04.KindsAlike', WHERE WHAT IT READS IS OF BULK AT MOST 1048576: true; the input reads as it did. -/
def kindsAlikeUptoRow : OpenClaim := { program := "ytgdokjfjmcleeaa", sum := "6b05d50fc37b9b16d17329e8e1066452654917160c176b9a8d551866a0b1512b", func := "wreckage/wreckagelaw04.KindsAlike", spec := "kindsAlike", unfollowed := true, recurses := true, plainKeys := false, apart := false, narrowed := true }
def KindsAlikeUptoSaid : Prop := kindsAlikeUptoRow.holds Try.pinned (OpenSpec.upto kindsAlikeSpec)

/-- 'wreckagelaw04.KindsMore', WHERE WHAT IT READS IS OF BULK AT MOST 1048576: true; the input reads as it did. -/
def kindsMoreUptoRow : OpenClaim := { program := "ytgdokjfjmcleeaa", sum := "6b05d50fc37b9b16d17329e8e1066452654917160c176b9a8d551866a0b1512b", func := "wreckage/wreckagelaw04.KindsMore", spec := "kindsMore", unfollowed := true, recurses := true, plainKeys := false, apart := false, narrowed := true }
def KindsMoreUptoSaid : Prop := kindsMoreUptoRow.holds Try.pinned (OpenSpec.upto kindsMoreSpec)

/-- 'wreckagelaw05.LayoutAlike', WHERE WHAT IT READS IS OF BULK AT MOST 1048576: true; the input reads as it did. -/
def layoutAlikeUptoRow : OpenClaim := { program := "ytgdokjfjmcleeaa", sum := "6b05d50fc37b9b16d17329e8e1066452654917160c176b9a8d551866a0b1512b", func := "wreckage/wreckagelaw05.LayoutAlike", spec := "layoutAlike", unfollowed := true, recurses := true, plainKeys := false, apart := false, narrowed := true }
def LayoutAlikeUptoSaid : Prop := layoutAlikeUptoRow.holds Try.pinned (OpenSpec.upto layoutAlikeSpec)

end Rows
end Go.Proofs.Ytgdokjfjmcleeaa
