/-
  No cell of these rows narrows 'for every input' (looked for: loops, veiled, ifaces, maps, wideKeys, modest, calm, conditions, laid).
  DERIVED. THE GIVEN ROWS OF THIS SEAT. 11 by the template 'for every input the law returns true; each argument reads behind the call as it read before'; 0 by the template 'total and deterministic' (their statements: YtmfonbehcfjjgaaTotals.lean).
  GIVEN WITH THE SEED: the statements are not yours to turn. If you find one false, say at which input.
  Laid BY PROGRAM, IN A SANDBOX (cutbox-rows.mjs): the forced cells as the released guide's own fill.sh prints them over the translation d2431aae693c730d… (all of the seat's roots in one cut). By AI agents, Wed Nov 11 2026. No macro, syntax, notation, axiom, sorry.
-/
import Derived.Test.YtmfonbehcfjjgaaChecked
import GoSem.Claim
import GoSem.ClaimJoined
import GoSem.ClaimMapViews
import Derived.JoinedTies
import Derived.KernelRfl
namespace Go.Proofs.Ytmfonbehcfjjgaa
/- THE CELL 'sum', in the pinned program and in every row, IS THE sha256 OF THE DUMP (.gsa) THAT YtmfonbehcfjjgaaProg.lean LOADS. Nothing in Lean hashes anything: it is a label: what it is worth is what the hold of that sum in a sandbox is worth. -/
noncomputable def Try.pinned : Pinned := { name := "ytmfonbehcfjjgaa", sum := "d2431aae693c730dd8f8456509dc921496556cfbfd90b708bf24bbaec65968a1", checked := Try.checked }
namespace Rows
def none {H : Type} : Left H := { results := [], args := [] }

/-- 'marcotlaw13.PastePlaces': WHATEVER THE INPUT: true; the input reads as it did. -/
def pastePlacesSpec : ChangeSpec := { name := "pastePlaces", fn := fun _ => fun
  | [d1, d2] => { results := [.lit (.bool true)], args := [d1, d2] }
  | _ => none }
def pastePlacesRow : OpenClaim := { program := "ytmfonbehcfjjgaa", sum := "d2431aae693c730dd8f8456509dc921496556cfbfd90b708bf24bbaec65968a1", func := "marcot/marcotlaw13.PastePlaces", spec := "pastePlaces", unfollowed := true, recurses := true, apart := false }
def PastePlacesSaid : Prop := pastePlacesRow.holds Try.pinned (OpenSpec.ofChange pastePlacesSpec)

/-- ITS FALSE NEIGHBOUR: 'it returns false'. Refute it at one input. -/
def pastePlacesWrong : ChangeSpec := { name := "pastePlaces", fn := fun _ => fun
  | [d1, d2] => { results := [.lit (.bool false)], args := [d1, d2] }
  | _ => none }
def PastePlacesWrongFalsely : Prop := pastePlacesRow.holds Try.pinned (OpenSpec.ofChange pastePlacesWrong)

/-- 'marcotlaw13.PasteSizes': WHATEVER THE INPUT: true; the input reads as it did. -/
def pasteSizesSpec : ChangeSpec := { name := "pasteSizes", fn := fun _ => fun
  | [d] => { results := [.lit (.bool true)], args := [d] }
  | _ => none }
def pasteSizesRow : OpenClaim := { program := "ytmfonbehcfjjgaa", sum := "d2431aae693c730dd8f8456509dc921496556cfbfd90b708bf24bbaec65968a1", func := "marcot/marcotlaw13.PasteSizes", spec := "pasteSizes", unfollowed := true, recurses := true, apart := false }
def PasteSizesSaid : Prop := pasteSizesRow.holds Try.pinned (OpenSpec.ofChange pasteSizesSpec)

/-- ITS FALSE NEIGHBOUR: 'it returns false'. Refute it at one input. -/
def pasteSizesWrong : ChangeSpec := { name := "pasteSizes", fn := fun _ => fun
  | [d] => { results := [.lit (.bool false)], args := [d] }
  | _ => none }
def PasteSizesWrongFalsely : Prop := pasteSizesRow.holds Try.pinned (OpenSpec.ofChange pasteSizesWrong)

/-- 'marcotlaw13.PasteDeep': WHATEVER THE INPUT: true; the input reads as it did. -/
def pasteDeepSpec : ChangeSpec := { name := "pasteDeep", fn := fun _ => fun
  | [d] => { results := [.lit (.bool true)], args := [d] }
  | _ => none }
def pasteDeepRow : OpenClaim := { program := "ytmfonbehcfjjgaa", sum := "d2431aae693c730dd8f8456509dc921496556cfbfd90b708bf24bbaec65968a1", func := "marcot/marcotlaw13.PasteDeep", spec := "pasteDeep", unfollowed := true, recurses := true, apart := false }
def PasteDeepSaid : Prop := pasteDeepRow.holds Try.pinned (OpenSpec.ofChange pasteDeepSpec)

/-- ITS FALSE NEIGHBOUR: 'it returns false'. Refute it at one input. -/
def pasteDeepWrong : ChangeSpec := { name := "pasteDeep", fn := fun _ => fun
  | [d] => { results := [.lit (.bool false)], args := [d] }
  | _ => none }
def PasteDeepWrongFalsely : Prop := pasteDeepRow.holds Try.pinned (OpenSpec.ofChange pasteDeepWrong)

/-- 'marcotlaw07.NodeSteps': WHATEVER THE INPUT: true; the input reads as it did. -/
def nodeStepsSpec : ChangeSpec := { name := "nodeSteps", fn := fun _ => fun
  | [d1, d2] => { results := [.lit (.bool true)], args := [d1, d2] }
  | _ => none }
def nodeStepsRow : OpenClaim := { program := "ytmfonbehcfjjgaa", sum := "d2431aae693c730dd8f8456509dc921496556cfbfd90b708bf24bbaec65968a1", func := "marcot/marcotlaw07.NodeSteps", spec := "nodeSteps", unfollowed := true, recurses := true, apart := false }
def NodeStepsSaid : Prop := nodeStepsRow.holds Try.pinned (OpenSpec.ofChange nodeStepsSpec)

/-- ITS FALSE NEIGHBOUR: 'it returns false'. Refute it at one input. -/
def nodeStepsWrong : ChangeSpec := { name := "nodeSteps", fn := fun _ => fun
  | [d1, d2] => { results := [.lit (.bool false)], args := [d1, d2] }
  | _ => none }
def NodeStepsWrongFalsely : Prop := nodeStepsRow.holds Try.pinned (OpenSpec.ofChange nodeStepsWrong)

/-- 'marcotlaw07.NodeRanges': WHATEVER THE INPUT: true; the input reads as it did. -/
def nodeRangesSpec : ChangeSpec := { name := "nodeRanges", fn := fun _ => fun
  | [d1, d2, d3] => { results := [.lit (.bool true)], args := [d1, d2, d3] }
  | _ => none }
def nodeRangesRow : OpenClaim := { program := "ytmfonbehcfjjgaa", sum := "d2431aae693c730dd8f8456509dc921496556cfbfd90b708bf24bbaec65968a1", func := "marcot/marcotlaw07.NodeRanges", spec := "nodeRanges", unfollowed := true, recurses := true, apart := false }
def NodeRangesSaid : Prop := nodeRangesRow.holds Try.pinned (OpenSpec.ofChange nodeRangesSpec)

/-- ITS FALSE NEIGHBOUR: 'it returns false'. Refute it at one input. -/
def nodeRangesWrong : ChangeSpec := { name := "nodeRanges", fn := fun _ => fun
  | [d1, d2, d3] => { results := [.lit (.bool false)], args := [d1, d2, d3] }
  | _ => none }
def NodeRangesWrongFalsely : Prop := nodeRangesRow.holds Try.pinned (OpenSpec.ofChange nodeRangesWrong)

/-- 'marcotlaw07.NodeSame': WHATEVER THE INPUT: true; the input reads as it did. -/
def nodeSameSpec : ChangeSpec := { name := "nodeSame", fn := fun _ => fun
  | [d1, d2] => { results := [.lit (.bool true)], args := [d1, d2] }
  | _ => none }
def nodeSameRow : OpenClaim := { program := "ytmfonbehcfjjgaa", sum := "d2431aae693c730dd8f8456509dc921496556cfbfd90b708bf24bbaec65968a1", func := "marcot/marcotlaw07.NodeSame", spec := "nodeSame", unfollowed := true, recurses := true, apart := false }
def NodeSameSaid : Prop := nodeSameRow.holds Try.pinned (OpenSpec.ofChange nodeSameSpec)

/-- ITS FALSE NEIGHBOUR: 'it returns false'. Refute it at one input. -/
def nodeSameWrong : ChangeSpec := { name := "nodeSame", fn := fun _ => fun
  | [d1, d2] => { results := [.lit (.bool false)], args := [d1, d2] }
  | _ => none }
def NodeSameWrongFalsely : Prop := nodeSameRow.holds Try.pinned (OpenSpec.ofChange nodeSameWrong)

/-- 'marcotlaw07.NodeTargets': WHATEVER THE INPUT: true; the input reads as it did. -/
def nodeTargetsSpec : ChangeSpec := { name := "nodeTargets", fn := fun _ => fun
  | [d1, d2] => { results := [.lit (.bool true)], args := [d1, d2] }
  | _ => none }
def nodeTargetsRow : OpenClaim := { program := "ytmfonbehcfjjgaa", sum := "d2431aae693c730dd8f8456509dc921496556cfbfd90b708bf24bbaec65968a1", func := "marcot/marcotlaw07.NodeTargets", spec := "nodeTargets", unfollowed := true, recurses := true, apart := false }
def NodeTargetsSaid : Prop := nodeTargetsRow.holds Try.pinned (OpenSpec.ofChange nodeTargetsSpec)

/-- ITS FALSE NEIGHBOUR: 'it returns false'. Refute it at one input. -/
def nodeTargetsWrong : ChangeSpec := { name := "nodeTargets", fn := fun _ => fun
  | [d1, d2] => { results := [.lit (.bool false)], args := [d1, d2] }
  | _ => none }
def NodeTargetsWrongFalsely : Prop := nodeTargetsRow.holds Try.pinned (OpenSpec.ofChange nodeTargetsWrong)

/-- 'marcotlaw08.CodecWrites': WHATEVER THE INPUT: true; the input reads as it did. -/
def codecWritesSpec : ChangeSpec := { name := "codecWrites", fn := fun _ => fun
  | [d] => { results := [.lit (.bool true)], args := [d] }
  | _ => none }
def codecWritesRow : OpenClaim := { program := "ytmfonbehcfjjgaa", sum := "d2431aae693c730dd8f8456509dc921496556cfbfd90b708bf24bbaec65968a1", func := "marcot/marcotlaw08.CodecWrites", spec := "codecWrites", unfollowed := true, recurses := true, apart := false }
def CodecWritesSaid : Prop := codecWritesRow.holds Try.pinned (OpenSpec.ofChange codecWritesSpec)

/-- ITS FALSE NEIGHBOUR: 'it returns false'. Refute it at one input. -/
def codecWritesWrong : ChangeSpec := { name := "codecWrites", fn := fun _ => fun
  | [d] => { results := [.lit (.bool false)], args := [d] }
  | _ => none }
def CodecWritesWrongFalsely : Prop := codecWritesRow.holds Try.pinned (OpenSpec.ofChange codecWritesWrong)

/-- 'marcotlaw08.CodecReads': WHATEVER THE INPUT: true; the input reads as it did. -/
def codecReadsSpec : ChangeSpec := { name := "codecReads", fn := fun _ => fun
  | [d] => { results := [.lit (.bool true)], args := [d] }
  | _ => none }
def codecReadsRow : OpenClaim := { program := "ytmfonbehcfjjgaa", sum := "d2431aae693c730dd8f8456509dc921496556cfbfd90b708bf24bbaec65968a1", func := "marcot/marcotlaw08.CodecReads", spec := "codecReads", unfollowed := true, recurses := true, apart := false }
def CodecReadsSaid : Prop := codecReadsRow.holds Try.pinned (OpenSpec.ofChange codecReadsSpec)

/-- ITS FALSE NEIGHBOUR: 'it returns false'. Refute it at one input. -/
def codecReadsWrong : ChangeSpec := { name := "codecReads", fn := fun _ => fun
  | [d] => { results := [.lit (.bool false)], args := [d] }
  | _ => none }
def CodecReadsWrongFalsely : Prop := codecReadsRow.holds Try.pinned (OpenSpec.ofChange codecReadsWrong)

/-- 'marcotlaw08.CodecBegins': WHATEVER THE INPUT: true; the input reads as it did. -/
def codecBeginsSpec : ChangeSpec := { name := "codecBegins", fn := fun _ => fun
  | [d1, d2] => { results := [.lit (.bool true)], args := [d1, d2] }
  | _ => none }
def codecBeginsRow : OpenClaim := { program := "ytmfonbehcfjjgaa", sum := "d2431aae693c730dd8f8456509dc921496556cfbfd90b708bf24bbaec65968a1", func := "marcot/marcotlaw08.CodecBegins", spec := "codecBegins", unfollowed := true, recurses := true, apart := false }
def CodecBeginsSaid : Prop := codecBeginsRow.holds Try.pinned (OpenSpec.ofChange codecBeginsSpec)

/-- ITS FALSE NEIGHBOUR: 'it returns false'. Refute it at one input. -/
def codecBeginsWrong : ChangeSpec := { name := "codecBegins", fn := fun _ => fun
  | [d1, d2] => { results := [.lit (.bool false)], args := [d1, d2] }
  | _ => none }
def CodecBeginsWrongFalsely : Prop := codecBeginsRow.holds Try.pinned (OpenSpec.ofChange codecBeginsWrong)

/-- 'marcotlaw07.NodeMay': WHATEVER THE INPUT: true; the input reads as it did. -/
def nodeMaySpec : ChangeSpec := { name := "nodeMay", fn := fun _ => fun
  | [d] => { results := [.lit (.bool true)], args := [d] }
  | _ => none }
def nodeMayRow : OpenClaim := { program := "ytmfonbehcfjjgaa", sum := "d2431aae693c730dd8f8456509dc921496556cfbfd90b708bf24bbaec65968a1", func := "marcot/marcotlaw07.NodeMay", spec := "nodeMay", unfollowed := true, recurses := true, apart := false }
def NodeMaySaid : Prop := nodeMayRow.holds Try.pinned (OpenSpec.ofChange nodeMaySpec)

/-- ITS FALSE NEIGHBOUR: 'it returns false'. Refute it at one input. -/
def nodeMayWrong : ChangeSpec := { name := "nodeMay", fn := fun _ => fun
  | [d] => { results := [.lit (.bool false)], args := [d] }
  | _ => none }
def NodeMayWrongFalsely : Prop := nodeMayRow.holds Try.pinned (OpenSpec.ofChange nodeMayWrong)

/- THE SECOND FORM. 'bulk': how many values and letters a reading holds, each counted each time it is reached (what is shared counts as often as it is met; a slice's spare places count too). A statement '..UptoSaid' is the law's where the arguments, and the package variables that the reading takes, are together of bulk at most 1048576: NARROWER than '..Said'. Prove '..Said' where nothing that the law and all that it calls make is longer than what came in: it says more and counts as full. Else prove '..UptoSaid'. A law counts once. -/
mutual
def uptoBulk {H : Type} : DataW H → Nat
  | .lit (.string bytes) => bytes.length + 1
  | .lit _ => 1
  | .nil => 1
  | .ptr d => uptoBulk d + 1
  | .slice elems spare => uptoBulkAll elems + uptoBulkAll spare + 1
  | .agg parts => uptoBulkAll parts + 1
  | .iface _ d => uptoBulk d + 1
  | .map entries => uptoBulkEntries entries + 1
  | .held _ => 1
def uptoBulkAll {H : Type} : List (DataW H) → Nat
  | [] => 0
  | d :: r => uptoBulk d + uptoBulkAll r
def uptoBulkEntries {H : Type} : List (Lit × DataW H) → Nat
  | [] => 0
  | x :: r => uptoBulkEntry x + uptoBulkEntries r
def uptoBulkEntry {H : Type} : Lit × DataW H → Nat
  | (.string bytes, d) => bytes.length + uptoBulk d + 1
  | (_, d) => uptoBulk d + 1
 end
def uptoSmall : (H : Type) → List (DataW H) → Bool := fun _ ds => decide (uptoBulkAll ds ≤ 1048576)
def OpenSpec.upto (s : _root_.Go.ChangeSpec) : _root_.Go.OpenSpec := { _root_.Go.OpenSpec.ofChange s with cond := some uptoSmall }

/-- 'marcotlaw13.PastePlaces', WHERE WHAT IT READS IS OF BULK AT MOST 1048576: true; the input reads as it did. -/
def pastePlacesUptoRow : OpenClaim := { program := "ytmfonbehcfjjgaa", sum := "d2431aae693c730dd8f8456509dc921496556cfbfd90b708bf24bbaec65968a1", func := "marcot/marcotlaw13.PastePlaces", spec := "pastePlaces", unfollowed := true, recurses := true, apart := false, narrowed := true }
def PastePlacesUptoSaid : Prop := pastePlacesUptoRow.holds Try.pinned (OpenSpec.upto pastePlacesSpec)

/-- 'marcotlaw13.PasteSizes', WHERE WHAT IT READS IS OF BULK AT MOST 1048576: true; the input reads as it did. -/
def pasteSizesUptoRow : OpenClaim := { program := "ytmfonbehcfjjgaa", sum := "d2431aae693c730dd8f8456509dc921496556cfbfd90b708bf24bbaec65968a1", func := "marcot/marcotlaw13.PasteSizes", spec := "pasteSizes", unfollowed := true, recurses := true, apart := false, narrowed := true }
def PasteSizesUptoSaid : Prop := pasteSizesUptoRow.holds Try.pinned (OpenSpec.upto pasteSizesSpec)

/-- 'marcotlaw13.PasteDeep', WHERE WHAT IT READS IS OF BULK AT MOST 1048576: true; the input reads as it did. -/
def pasteDeepUptoRow : OpenClaim := { program := "ytmfonbehcfjjgaa", sum := "d2431aae693c730dd8f8456509dc921496556cfbfd90b708bf24bbaec65968a1", func := "marcot/marcotlaw13.PasteDeep", spec := "pasteDeep", unfollowed := true, recurses := true, apart := false, narrowed := true }
def PasteDeepUptoSaid : Prop := pasteDeepUptoRow.holds Try.pinned (OpenSpec.upto pasteDeepSpec)

/-- 'marcotlaw07.NodeSteps', WHERE WHAT IT READS IS OF BULK AT MOST 1048576: true; the input reads as it did. -/
def nodeStepsUptoRow : OpenClaim := { program := "ytmfonbehcfjjgaa", sum := "d2431aae693c730dd8f8456509dc921496556cfbfd90b708bf24bbaec65968a1", func := "marcot/marcotlaw07.NodeSteps", spec := "nodeSteps", unfollowed := true, recurses := true, apart := false, narrowed := true }
def NodeStepsUptoSaid : Prop := nodeStepsUptoRow.holds Try.pinned (OpenSpec.upto nodeStepsSpec)

/-- 'marcotlaw07.NodeRanges', WHERE WHAT IT READS IS OF BULK AT MOST 1048576: true; the input reads as it did. -/
def nodeRangesUptoRow : OpenClaim := { program := "ytmfonbehcfjjgaa", sum := "d2431aae693c730dd8f8456509dc921496556cfbfd90b708bf24bbaec65968a1", func := "marcot/marcotlaw07.NodeRanges", spec := "nodeRanges", unfollowed := true, recurses := true, apart := false, narrowed := true }
def NodeRangesUptoSaid : Prop := nodeRangesUptoRow.holds Try.pinned (OpenSpec.upto nodeRangesSpec)

/-- 'marcotlaw07.NodeSame', WHERE WHAT IT READS IS OF BULK AT MOST 1048576: true; the input reads as it did. -/
def nodeSameUptoRow : OpenClaim := { program := "ytmfonbehcfjjgaa", sum := "d2431aae693c730dd8f8456509dc921496556cfbfd90b708bf24bbaec65968a1", func := "marcot/marcotlaw07.NodeSame", spec := "nodeSame", unfollowed := true, recurses := true, apart := false, narrowed := true }
def NodeSameUptoSaid : Prop := nodeSameUptoRow.holds Try.pinned (OpenSpec.upto nodeSameSpec)

/-- 'marcotlaw07.NodeTargets', WHERE WHAT IT READS IS OF BULK AT MOST 1048576: true; the input reads as it did. -/
def nodeTargetsUptoRow : OpenClaim := { program := "ytmfonbehcfjjgaa", sum := "d2431aae693c730dd8f8456509dc921496556cfbfd90b708bf24bbaec65968a1", func := "marcot/marcotlaw07.NodeTargets", spec := "nodeTargets", unfollowed := true, recurses := true, apart := false, narrowed := true }
def NodeTargetsUptoSaid : Prop := nodeTargetsUptoRow.holds Try.pinned (OpenSpec.upto nodeTargetsSpec)

/-- 'marcotlaw08.CodecWrites', WHERE WHAT IT READS IS OF BULK AT MOST 1048576: true; the input reads as it did. -/
def codecWritesUptoRow : OpenClaim := { program := "ytmfonbehcfjjgaa", sum := "d2431aae693c730dd8f8456509dc921496556cfbfd90b708bf24bbaec65968a1", func := "marcot/marcotlaw08.CodecWrites", spec := "codecWrites", unfollowed := true, recurses := true, apart := false, narrowed := true }
def CodecWritesUptoSaid : Prop := codecWritesUptoRow.holds Try.pinned (OpenSpec.upto codecWritesSpec)

/-- 'marcotlaw08.CodecReads', WHERE WHAT IT READS IS OF BULK AT MOST 1048576: true; the input reads as it did. -/
def codecReadsUptoRow : OpenClaim := { program := "ytmfonbehcfjjgaa", sum := "d2431aae693c730dd8f8456509dc921496556cfbfd90b708bf24bbaec65968a1", func := "marcot/marcotlaw08.CodecReads", spec := "codecReads", unfollowed := true, recurses := true, apart := false, narrowed := true }
def CodecReadsUptoSaid : Prop := codecReadsUptoRow.holds Try.pinned (OpenSpec.upto codecReadsSpec)

/-- 'marcotlaw08.CodecBegins', WHERE WHAT IT READS IS OF BULK AT MOST 1048576: true; the input reads as it did. -/
def codecBeginsUptoRow : OpenClaim := { program := "ytmfonbehcfjjgaa", sum := "d2431aae693c730dd8f8456509dc921496556cfbfd90b708bf24bbaec65968a1", func := "marcot/marcotlaw08.CodecBegins", spec := "codecBegins", unfollowed := true, recurses := true, apart := false, narrowed := true }
def CodecBeginsUptoSaid : Prop := codecBeginsUptoRow.holds Try.pinned (OpenSpec.upto codecBeginsSpec)

/-- 'marcotlaw07.NodeMay', WHERE WHAT IT READS IS OF BULK AT MOST 1048576: true; the input reads as it did. -/
def nodeMayUptoRow : OpenClaim := { program := "ytmfonbehcfjjgaa", sum := "d2431aae693c730dd8f8456509dc921496556cfbfd90b708bf24bbaec65968a1", func := "marcot/marcotlaw07.NodeMay", spec := "nodeMay", unfollowed := true, recurses := true, apart := false, narrowed := true }
def NodeMayUptoSaid : Prop := nodeMayUptoRow.holds Try.pinned (OpenSpec.upto nodeMaySpec)

end Rows
end Go.Proofs.Ytmfonbehcfjjgaa
