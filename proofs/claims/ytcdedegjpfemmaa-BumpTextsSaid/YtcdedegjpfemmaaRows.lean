/-
  No cell of these rows narrows 'for every input' (looked for: loops, veiled, ifaces, maps, wideKeys, modest, calm, conditions, laid).
  DERIVED. THE GIVEN ROWS OF THIS SEAT. 9 by the template 'for every input the law returns true; each argument reads behind the call as it read before'; 0 by the template 'total and deterministic' (their statements: YtcdedegjpfemmaaTotals.lean).
  GIVEN WITH THE SEED: the statements are not yours to turn. If you find one false, say at which input.
  Laid BY PROGRAM, IN A SANDBOX (cutbox-rows.mjs): the forced cells as the released guide's own fill.sh prints them over the translation 6a8d6bada66bbaa5… (all of the seat's roots in one cut). By AI agents, Wed Nov 11 2026. No macro, syntax, notation, axiom, sorry.
-/
import Derived.Test.YtcdedegjpfemmaaChecked
import GoSem.Claim
import GoSem.ClaimJoined
import GoSem.ClaimMapViews
import Derived.JoinedTies
import Derived.KernelRfl
namespace Go.Proofs.Ytcdedegjpfemmaa
/- THE CELL 'sum', in the pinned program and in every row, IS THE sha256 OF THE DUMP (.gsa) THAT YtcdedegjpfemmaaProg.lean LOADS. Nothing in Lean hashes anything: it is a label: what it is worth is what the hold of that sum in a sandbox is worth. -/
noncomputable def Try.pinned : Pinned := { name := "ytcdedegjpfemmaa", sum := "6a8d6bada66bbaa5078238f79cc26c8319571aca1f100adcf7a15601a435c24a", checked := Try.checked }
namespace Rows
def none {H : Type} : Left H := { results := [], args := [] }

/-- 'wreckagelaw17.DefersPushes': WHATEVER THE INPUT: true; the input reads as it did. -/
def defersPushesSpec : ChangeSpec := { name := "defersPushes", fn := fun _ => fun
  | [d1, d2, d3] => { results := [.lit (.bool true)], args := [d1, d2, d3] }
  | _ => none }
def defersPushesRow : OpenClaim := { program := "ytcdedegjpfemmaa", sum := "6a8d6bada66bbaa5078238f79cc26c8319571aca1f100adcf7a15601a435c24a", func := "wreckage/wreckagelaw17.DefersPushes", spec := "defersPushes", apart := false }
def DefersPushesSaid : Prop := defersPushesRow.holds Try.pinned (OpenSpec.ofChange defersPushesSpec)

/-- ITS FALSE NEIGHBOUR: 'it returns false'. Refute it at one input. -/
def defersPushesWrong : ChangeSpec := { name := "defersPushes", fn := fun _ => fun
  | [d1, d2, d3] => { results := [.lit (.bool false)], args := [d1, d2, d3] }
  | _ => none }
def DefersPushesWrongFalsely : Prop := defersPushesRow.holds Try.pinned (OpenSpec.ofChange defersPushesWrong)

/-- 'wreckagelaw14.BumpPuts': WHATEVER THE INPUT: true; the input reads as it did. -/
def bumpPutsSpec : ChangeSpec := { name := "bumpPuts", fn := fun _ => fun
  | [d1, d2, d3, d4] => { results := [.lit (.bool true)], args := [d1, d2, d3, d4] }
  | _ => none }
def bumpPutsRow : OpenClaim := { program := "ytcdedegjpfemmaa", sum := "6a8d6bada66bbaa5078238f79cc26c8319571aca1f100adcf7a15601a435c24a", func := "wreckage/wreckagelaw14.BumpPuts", spec := "bumpPuts", unfollowed := true, recurses := true, apart := false }
def BumpPutsSaid : Prop := bumpPutsRow.holds Try.pinned (OpenSpec.ofChange bumpPutsSpec)

/-- ITS FALSE NEIGHBOUR: 'it returns false'. Refute it at one input. -/
def bumpPutsWrong : ChangeSpec := { name := "bumpPuts", fn := fun _ => fun
  | [d1, d2, d3, d4] => { results := [.lit (.bool false)], args := [d1, d2, d3, d4] }
  | _ => none }
def BumpPutsWrongFalsely : Prop := bumpPutsRow.holds Try.pinned (OpenSpec.ofChange bumpPutsWrong)

/-- 'wreckagelaw14.BumpNames': WHATEVER THE INPUT: true; the input reads as it did. -/
def bumpNamesSpec : ChangeSpec := { name := "bumpNames", fn := fun _ => fun
  | [] => { results := [.lit (.bool true)], args := [] }
  | _ => none }
def bumpNamesRow : OpenClaim := { program := "ytcdedegjpfemmaa", sum := "6a8d6bada66bbaa5078238f79cc26c8319571aca1f100adcf7a15601a435c24a", func := "wreckage/wreckagelaw14.BumpNames", spec := "bumpNames", unfollowed := true, recurses := true, apart := false }
def BumpNamesSaid : Prop := bumpNamesRow.holds Try.pinned (OpenSpec.ofChange bumpNamesSpec)

/-- ITS FALSE NEIGHBOUR: 'it returns false'. Refute it at one input. -/
def bumpNamesWrong : ChangeSpec := { name := "bumpNames", fn := fun _ => fun
  | [] => { results := [.lit (.bool false)], args := [] }
  | _ => none }
def BumpNamesWrongFalsely : Prop := bumpNamesRow.holds Try.pinned (OpenSpec.ofChange bumpNamesWrong)

/-- 'wreckagelaw14.BumpTexts': WHATEVER THE INPUT: true; the input reads as it did. -/
def bumpTextsSpec : ChangeSpec := { name := "bumpTexts", fn := fun _ => fun
  | [d1, d2, d3] => { results := [.lit (.bool true)], args := [d1, d2, d3] }
  | _ => none }
def bumpTextsRow : OpenClaim := { program := "ytcdedegjpfemmaa", sum := "6a8d6bada66bbaa5078238f79cc26c8319571aca1f100adcf7a15601a435c24a", func := "wreckage/wreckagelaw14.BumpTexts", spec := "bumpTexts", unfollowed := true, recurses := true, apart := false }
def BumpTextsSaid : Prop := bumpTextsRow.holds Try.pinned (OpenSpec.ofChange bumpTextsSpec)

/-- ITS FALSE NEIGHBOUR: 'it returns false'. Refute it at one input. -/
def bumpTextsWrong : ChangeSpec := { name := "bumpTexts", fn := fun _ => fun
  | [d1, d2, d3] => { results := [.lit (.bool false)], args := [d1, d2, d3] }
  | _ => none }
def BumpTextsWrongFalsely : Prop := bumpTextsRow.holds Try.pinned (OpenSpec.ofChange bumpTextsWrong)

/-- 'wreckagelaw13.RegionSizes': WHATEVER THE INPUT: true; the input reads as it did. -/
def regionSizesSpec : ChangeSpec := { name := "regionSizes", fn := fun _ => fun
  | [d1, d2, d3, d4] => { results := [.lit (.bool true)], args := [d1, d2, d3, d4] }
  | _ => none }
def regionSizesRow : OpenClaim := { program := "ytcdedegjpfemmaa", sum := "6a8d6bada66bbaa5078238f79cc26c8319571aca1f100adcf7a15601a435c24a", func := "wreckage/wreckagelaw13.RegionSizes", spec := "regionSizes", unfollowed := true, recurses := true, apart := false }
def RegionSizesSaid : Prop := regionSizesRow.holds Try.pinned (OpenSpec.ofChange regionSizesSpec)

/-- ITS FALSE NEIGHBOUR: 'it returns false'. Refute it at one input. -/
def regionSizesWrong : ChangeSpec := { name := "regionSizes", fn := fun _ => fun
  | [d1, d2, d3, d4] => { results := [.lit (.bool false)], args := [d1, d2, d3, d4] }
  | _ => none }
def RegionSizesWrongFalsely : Prop := regionSizesRow.holds Try.pinned (OpenSpec.ofChange regionSizesWrong)

/-- 'wreckagelaw17.DefersKeep': WHATEVER THE INPUT: true; the input reads as it did. -/
def defersKeepSpec : ChangeSpec := { name := "defersKeep", fn := fun _ => fun
  | [d1, d2, d3, d4] => { results := [.lit (.bool true)], args := [d1, d2, d3, d4] }
  | _ => none }
def defersKeepRow : OpenClaim := { program := "ytcdedegjpfemmaa", sum := "6a8d6bada66bbaa5078238f79cc26c8319571aca1f100adcf7a15601a435c24a", func := "wreckage/wreckagelaw17.DefersKeep", spec := "defersKeep", apart := false }
def DefersKeepSaid : Prop := defersKeepRow.holds Try.pinned (OpenSpec.ofChange defersKeepSpec)

/-- ITS FALSE NEIGHBOUR: 'it returns false'. Refute it at one input. -/
def defersKeepWrong : ChangeSpec := { name := "defersKeep", fn := fun _ => fun
  | [d1, d2, d3, d4] => { results := [.lit (.bool false)], args := [d1, d2, d3, d4] }
  | _ => none }
def DefersKeepWrongFalsely : Prop := defersKeepRow.holds Try.pinned (OpenSpec.ofChange defersKeepWrong)

/-- 'wreckagelaw18.PanicsPushes': WHATEVER THE INPUT: true; the input reads as it did. -/
def panicsPushesSpec : ChangeSpec := { name := "panicsPushes", fn := fun _ => fun
  | [d1, d2, d3, d4] => { results := [.lit (.bool true)], args := [d1, d2, d3, d4] }
  | _ => none }
def panicsPushesRow : OpenClaim := { program := "ytcdedegjpfemmaa", sum := "6a8d6bada66bbaa5078238f79cc26c8319571aca1f100adcf7a15601a435c24a", func := "wreckage/wreckagelaw18.PanicsPushes", spec := "panicsPushes", apart := false }
def PanicsPushesSaid : Prop := panicsPushesRow.holds Try.pinned (OpenSpec.ofChange panicsPushesSpec)

/-- ITS FALSE NEIGHBOUR: 'it returns false'. Refute it at one input. -/
def panicsPushesWrong : ChangeSpec := { name := "panicsPushes", fn := fun _ => fun
  | [d1, d2, d3, d4] => { results := [.lit (.bool false)], args := [d1, d2, d3, d4] }
  | _ => none }
def PanicsPushesWrongFalsely : Prop := panicsPushesRow.holds Try.pinned (OpenSpec.ofChange panicsPushesWrong)

/-- 'wreckagelaw18.PanicsGone': WHATEVER THE INPUT: true; the input reads as it did. -/
def panicsGoneSpec : ChangeSpec := { name := "panicsGone", fn := fun _ => fun
  | [d1, d2] => { results := [.lit (.bool true)], args := [d1, d2] }
  | _ => none }
def panicsGoneRow : OpenClaim := { program := "ytcdedegjpfemmaa", sum := "6a8d6bada66bbaa5078238f79cc26c8319571aca1f100adcf7a15601a435c24a", func := "wreckage/wreckagelaw18.PanicsGone", spec := "panicsGone", apart := false }
def PanicsGoneSaid : Prop := panicsGoneRow.holds Try.pinned (OpenSpec.ofChange panicsGoneSpec)

/-- ITS FALSE NEIGHBOUR: 'it returns false'. Refute it at one input. -/
def panicsGoneWrong : ChangeSpec := { name := "panicsGone", fn := fun _ => fun
  | [d1, d2] => { results := [.lit (.bool false)], args := [d1, d2] }
  | _ => none }
def PanicsGoneWrongFalsely : Prop := panicsGoneRow.holds Try.pinned (OpenSpec.ofChange panicsGoneWrong)

/-- 'wreckagelaw18.PanicsNames': WHATEVER THE INPUT: true; the input reads as it did. -/
def panicsNamesSpec : ChangeSpec := { name := "panicsNames", fn := fun _ => fun
  | [] => { results := [.lit (.bool true)], args := [] }
  | _ => none }
def panicsNamesRow : OpenClaim := { program := "ytcdedegjpfemmaa", sum := "6a8d6bada66bbaa5078238f79cc26c8319571aca1f100adcf7a15601a435c24a", func := "wreckage/wreckagelaw18.PanicsNames", spec := "panicsNames", apart := false }
def PanicsNamesSaid : Prop := panicsNamesRow.holds Try.pinned (OpenSpec.ofChange panicsNamesSpec)

/-- ITS FALSE NEIGHBOUR: 'it returns false'. Refute it at one input. -/
def panicsNamesWrong : ChangeSpec := { name := "panicsNames", fn := fun _ => fun
  | [] => { results := [.lit (.bool false)], args := [] }
  | _ => none }
def PanicsNamesWrongFalsely : Prop := panicsNamesRow.holds Try.pinned (OpenSpec.ofChange panicsNamesWrong)

/- THE SECOND FORM. 'bulk': how many values and letters a reading holds, each counted each time it is reached (what is shared counts as often as it is met; a slice's spare places count too). A statement '..UptoSaid' is the law's where the arguments, and the package variables that the reading takes, are together of bulk at most 1048576: NARROWER than '..Said'. Prove '..Said' where nothing that the law and all that it calls make is longer than what came in: it says more and counts as full. Else prove '..UptoSaid'. A law counts once. -/
mutual
def uptoBulk {H : Type} : DataW H → Nat
  | .lit (.string bytes) => bytes.length + 1
  | .lit _ => 1
  | .nil => 1
  | .ptr d => uptoBulk d + 1
  | .slice elems spare => uptoBulkAll elems + uptoBulkAll spare + 1
  | .agg parts => uptoBulkAll parts + 1
  | .iface _ d => uptoBulk d + 1
  | .map entries => uptoBulkEntries entries + 1
  | .held _ => 1
def uptoBulkAll {H : Type} : List (DataW H) → Nat
  | [] => 0
  | d :: r => uptoBulk d + uptoBulkAll r
def uptoBulkEntries {H : Type} : List (Lit × DataW H) → Nat
  | [] => 0
  | x :: r => uptoBulkEntry x + uptoBulkEntries r
def uptoBulkEntry {H : Type} : Lit × DataW H → Nat
  | (.string bytes, d) => bytes.length + uptoBulk d + 1
  | (_, d) => uptoBulk d + 1
 end
def uptoSmall : (H : Type) → List (DataW H) → Bool := fun _ ds => decide (uptoBulkAll ds ≤ 1048576)
def OpenSpec.upto (s : _root_.Go.ChangeSpec) : _root_.Go.OpenSpec := { _root_.Go.OpenSpec.ofChange s with cond := some uptoSmall }

/-- 'wreckagelaw17.DefersPushes', WHERE WHAT IT READS IS OF BULK AT MOST 1048576: true; the input reads as it did. -/
def defersPushesUptoRow : OpenClaim := { program := "ytcdedegjpfemmaa", sum := "6a8d6bada66bbaa5078238f79cc26c8319571aca1f100adcf7a15601a435c24a", func := "wreckage/wreckagelaw17.DefersPushes", spec := "defersPushes", apart := false, narrowed := true }
def DefersPushesUptoSaid : Prop := defersPushesUptoRow.holds Try.pinned (OpenSpec.upto defersPushesSpec)

/-- 'wreckagelaw14.BumpPuts', WHERE WHAT IT READS IS OF BULK AT MOST 1048576: true; the input reads as it did. -/
def bumpPutsUptoRow : OpenClaim := { program := "ytcdedegjpfemmaa", sum := "6a8d6bada66bbaa5078238f79cc26c8319571aca1f100adcf7a15601a435c24a", func := "wreckage/wreckagelaw14.BumpPuts", spec := "bumpPuts", unfollowed := true, recurses := true, apart := false, narrowed := true }
def BumpPutsUptoSaid : Prop := bumpPutsUptoRow.holds Try.pinned (OpenSpec.upto bumpPutsSpec)

/-- 'wreckagelaw14.BumpNames', WHERE WHAT IT READS IS OF BULK AT MOST 1048576: true; the input reads as it did. -/
def bumpNamesUptoRow : OpenClaim := { program := "ytcdedegjpfemmaa", sum := "6a8d6bada66bbaa5078238f79cc26c8319571aca1f100adcf7a15601a435c24a", func := "wreckage/wreckagelaw14.BumpNames", spec := "bumpNames", unfollowed := true, recurses := true, apart := false, narrowed := true }
def BumpNamesUptoSaid : Prop := bumpNamesUptoRow.holds Try.pinned (OpenSpec.upto bumpNamesSpec)

/-- 'wreckagelaw14.BumpTexts', WHERE WHAT IT READS IS OF BULK AT MOST 1048576: true; the input reads as it did. -/
def bumpTextsUptoRow : OpenClaim := { program := "ytcdedegjpfemmaa", sum := "6a8d6bada66bbaa5078238f79cc26c8319571aca1f100adcf7a15601a435c24a", func := "wreckage/wreckagelaw14.BumpTexts", spec := "bumpTexts", unfollowed := true, recurses := true, apart := false, narrowed := true }
def BumpTextsUptoSaid : Prop := bumpTextsUptoRow.holds Try.pinned (OpenSpec.upto bumpTextsSpec)

/-- 'wreckagelaw13.RegionSizes', WHERE WHAT IT READS IS OF BULK AT MOST 1048576: true; the input reads as it did. -/
def regionSizesUptoRow : OpenClaim := { program := "ytcdedegjpfemmaa", sum := "6a8d6bada66bbaa5078238f79cc26c8319571aca1f100adcf7a15601a435c24a", func := "wreckage/wreckagelaw13.RegionSizes", spec := "regionSizes", unfollowed := true, recurses := true, apart := false, narrowed := true }
def RegionSizesUptoSaid : Prop := regionSizesUptoRow.holds Try.pinned (OpenSpec.upto regionSizesSpec)

/-- 'wreckagelaw17.DefersKeep', WHERE WHAT IT READS IS OF BULK AT MOST 1048576: true; the input reads as it did. -/
def defersKeepUptoRow : OpenClaim := { program := "ytcdedegjpfemmaa", sum := "6a8d6bada66bbaa5078238f79cc26c8319571aca1f100adcf7a15601a435c24a", func := "wreckage/wreckagelaw17.DefersKeep", spec := "defersKeep", apart := false, narrowed := true }
def DefersKeepUptoSaid : Prop := defersKeepUptoRow.holds Try.pinned (OpenSpec.upto defersKeepSpec)

/-- 'wreckagelaw18.PanicsPushes', WHERE WHAT IT READS IS OF BULK AT MOST 1048576: true; the input reads as it did. -/
def panicsPushesUptoRow : OpenClaim := { program := "ytcdedegjpfemmaa", sum := "6a8d6bada66bbaa5078238f79cc26c8319571aca1f100adcf7a15601a435c24a", func := "wreckage/wreckagelaw18.PanicsPushes", spec := "panicsPushes", apart := false, narrowed := true }
def PanicsPushesUptoSaid : Prop := panicsPushesUptoRow.holds Try.pinned (OpenSpec.upto panicsPushesSpec)

/-- 'wreckagelaw18.PanicsGone', WHERE WHAT IT READS IS OF BULK AT MOST 1048576: true; the input reads as it did. -/
def panicsGoneUptoRow : OpenClaim := { program := "ytcdedegjpfemmaa", sum := "6a8d6bada66bbaa5078238f79cc26c8319571aca1f100adcf7a15601a435c24a", func := "wreckage/wreckagelaw18.PanicsGone", spec := "panicsGone", apart := false, narrowed := true }
def PanicsGoneUptoSaid : Prop := panicsGoneUptoRow.holds Try.pinned (OpenSpec.upto panicsGoneSpec)

/-- 'wreckagelaw18.PanicsNames', WHERE WHAT IT READS IS OF BULK AT MOST 1048576: true; the input reads as it did. -/
def panicsNamesUptoRow : OpenClaim := { program := "ytcdedegjpfemmaa", sum := "6a8d6bada66bbaa5078238f79cc26c8319571aca1f100adcf7a15601a435c24a", func := "wreckage/wreckagelaw18.PanicsNames", spec := "panicsNames", apart := false, narrowed := true }
def PanicsNamesUptoSaid : Prop := panicsNamesUptoRow.holds Try.pinned (OpenSpec.upto panicsNamesSpec)

end Rows
end Go.Proofs.Ytcdedegjpfemmaa
