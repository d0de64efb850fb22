/-
  No cell of these rows narrows 'for every input' (looked for: loops, veiled, ifaces, maps, wideKeys, modest, calm, conditions, laid).
  DERIVED. THE GIVEN ROWS OF THIS SEAT. 11 by the template 'for every input the law returns true; each argument reads behind the call as it read before'; 0 by the template 'total and deterministic' (their statements: YtafbjkidgdpfoaaTotals.lean).
  GIVEN WITH THE SEED: the statements are not yours to turn. If you find one false, say at which input.
  Laid BY PROGRAM, IN A SANDBOX (cutbox-rows.mjs): the forced cells as the released guide's own fill.sh prints them over the translation 173a7ff29647d3d6… (all of the seat's roots in one cut). By AI agents, Wed Nov 11 2026. No macro, syntax, notation, axiom, sorry.
-/
import Derived.Test.YtafbjkidgdpfoaaChecked
import GoSem.Claim
import GoSem.ClaimJoined
import GoSem.ClaimMapViews
import Derived.JoinedTies
import Derived.KernelRfl
namespace Go.Proofs.Ytafbjkidgdpfoaa
/- THE CELL 'sum', in the pinned program and in every row, IS THE sha256 OF THE DUMP (.gsa) THAT YtafbjkidgdpfoaaProg.lean LOADS. Nothing in Lean hashes anything: it is a label: what it is worth is what the hold of that sum in a sandbox is worth. -/
noncomputable def Try.pinned : Pinned := { name := "ytafbjkidgdpfoaa", sum := "173a7ff29647d3d6bfb59d5cc164643a5b0b1ae223f1cc2d32142b603031160e", checked := Try.checked }
namespace Rows
def none {H : Type} : Left H := { results := [], args := [] }

/-- 'marcotlaw04.LiftJoins': WHATEVER THE INPUT: true; the input reads as it did. -/
def liftJoinsSpec : ChangeSpec := { name := "liftJoins", fn := fun _ => fun
  | [d1, d2, d3] => { results := [.lit (.bool true)], args := [d1, d2, d3] }
  | _ => none }
def liftJoinsRow : OpenClaim := { program := "ytafbjkidgdpfoaa", sum := "173a7ff29647d3d6bfb59d5cc164643a5b0b1ae223f1cc2d32142b603031160e", func := "marcot/marcotlaw04.LiftJoins", spec := "liftJoins", apart := false }
def LiftJoinsSaid : Prop := liftJoinsRow.holds Try.pinned (OpenSpec.ofChange liftJoinsSpec)

/-- ITS FALSE NEIGHBOUR: 'it returns false'. Refute it at one input. -/
def liftJoinsWrong : ChangeSpec := { name := "liftJoins", fn := fun _ => fun
  | [d1, d2, d3] => { results := [.lit (.bool false)], args := [d1, d2, d3] }
  | _ => none }
def LiftJoinsWrongFalsely : Prop := liftJoinsRow.holds Try.pinned (OpenSpec.ofChange liftJoinsWrong)

/-- 'marcotlaw04.LiftThree': WHATEVER THE INPUT: true; the input reads as it did. -/
def liftThreeSpec : ChangeSpec := { name := "liftThree", fn := fun _ => fun
  | [d1, d2, d3] => { results := [.lit (.bool true)], args := [d1, d2, d3] }
  | _ => none }
def liftThreeRow : OpenClaim := { program := "ytafbjkidgdpfoaa", sum := "173a7ff29647d3d6bfb59d5cc164643a5b0b1ae223f1cc2d32142b603031160e", func := "marcot/marcotlaw04.LiftThree", spec := "liftThree", apart := false }
def LiftThreeSaid : Prop := liftThreeRow.holds Try.pinned (OpenSpec.ofChange liftThreeSpec)

/-- ITS FALSE NEIGHBOUR: 'it returns false'. Refute it at one input. -/
def liftThreeWrong : ChangeSpec := { name := "liftThree", fn := fun _ => fun
  | [d1, d2, d3] => { results := [.lit (.bool false)], args := [d1, d2, d3] }
  | _ => none }
def LiftThreeWrongFalsely : Prop := liftThreeRow.holds Try.pinned (OpenSpec.ofChange liftThreeWrong)

/-- 'marcotlaw04.LiftBack': WHATEVER THE INPUT: true; the input reads as it did. -/
def liftBackSpec : ChangeSpec := { name := "liftBack", fn := fun _ => fun
  | [d1, d2, d3] => { results := [.lit (.bool true)], args := [d1, d2, d3] }
  | _ => none }
def liftBackRow : OpenClaim := { program := "ytafbjkidgdpfoaa", sum := "173a7ff29647d3d6bfb59d5cc164643a5b0b1ae223f1cc2d32142b603031160e", func := "marcot/marcotlaw04.LiftBack", spec := "liftBack", apart := false }
def LiftBackSaid : Prop := liftBackRow.holds Try.pinned (OpenSpec.ofChange liftBackSpec)

/-- ITS FALSE NEIGHBOUR: 'it returns false'. Refute it at one input. -/
def liftBackWrong : ChangeSpec := { name := "liftBack", fn := fun _ => fun
  | [d1, d2, d3] => { results := [.lit (.bool false)], args := [d1, d2, d3] }
  | _ => none }
def LiftBackWrongFalsely : Prop := liftBackRow.holds Try.pinned (OpenSpec.ofChange liftBackWrong)

/-- 'marcotlaw03.KeyUnder': WHATEVER THE INPUT: true; the input reads as it did. -/
def keyUnderSpec : ChangeSpec := { name := "keyUnder", fn := fun _ => fun
  | [d1, d2] => { results := [.lit (.bool true)], args := [d1, d2] }
  | _ => none }
def keyUnderRow : OpenClaim := { program := "ytafbjkidgdpfoaa", sum := "173a7ff29647d3d6bfb59d5cc164643a5b0b1ae223f1cc2d32142b603031160e", func := "marcot/marcotlaw03.KeyUnder", spec := "keyUnder", apart := false }
def KeyUnderSaid : Prop := keyUnderRow.holds Try.pinned (OpenSpec.ofChange keyUnderSpec)

/-- ITS FALSE NEIGHBOUR: 'it returns false'. Refute it at one input. -/
def keyUnderWrong : ChangeSpec := { name := "keyUnder", fn := fun _ => fun
  | [d1, d2] => { results := [.lit (.bool false)], args := [d1, d2] }
  | _ => none }
def KeyUnderWrongFalsely : Prop := keyUnderRow.holds Try.pinned (OpenSpec.ofChange keyUnderWrong)

/-- 'marcotlaw03.KeyTexts': WHATEVER THE INPUT: true; the input reads as it did. -/
def keyTextsSpec : ChangeSpec := { name := "keyTexts", fn := fun _ => fun
  | [d1, d2] => { results := [.lit (.bool true)], args := [d1, d2] }
  | _ => none }
def keyTextsRow : OpenClaim := { program := "ytafbjkidgdpfoaa", sum := "173a7ff29647d3d6bfb59d5cc164643a5b0b1ae223f1cc2d32142b603031160e", func := "marcot/marcotlaw03.KeyTexts", spec := "keyTexts", recurses := true, apart := false }
def KeyTextsSaid : Prop := keyTextsRow.holds Try.pinned (OpenSpec.ofChange keyTextsSpec)

/-- ITS FALSE NEIGHBOUR: 'it returns false'. Refute it at one input. -/
def keyTextsWrong : ChangeSpec := { name := "keyTexts", fn := fun _ => fun
  | [d1, d2] => { results := [.lit (.bool false)], args := [d1, d2] }
  | _ => none }
def KeyTextsWrongFalsely : Prop := keyTextsRow.holds Try.pinned (OpenSpec.ofChange keyTextsWrong)

/-- 'marcotlaw03.KeyBetween': WHATEVER THE INPUT: true; the input reads as it did. -/
def keyBetweenSpec : ChangeSpec := { name := "keyBetween", fn := fun _ => fun
  | [d1, d2] => { results := [.lit (.bool true)], args := [d1, d2] }
  | _ => none }
def keyBetweenRow : OpenClaim := { program := "ytafbjkidgdpfoaa", sum := "173a7ff29647d3d6bfb59d5cc164643a5b0b1ae223f1cc2d32142b603031160e", func := "marcot/marcotlaw03.KeyBetween", spec := "keyBetween", apart := false }
def KeyBetweenSaid : Prop := keyBetweenRow.holds Try.pinned (OpenSpec.ofChange keyBetweenSpec)

/-- ITS FALSE NEIGHBOUR: 'it returns false'. Refute it at one input. -/
def keyBetweenWrong : ChangeSpec := { name := "keyBetween", fn := fun _ => fun
  | [d1, d2] => { results := [.lit (.bool false)], args := [d1, d2] }
  | _ => none }
def KeyBetweenWrongFalsely : Prop := keyBetweenRow.holds Try.pinned (OpenSpec.ofChange keyBetweenWrong)

/-- 'marcotlaw03.KeyOf': WHATEVER THE INPUT: true; the input reads as it did. -/
def keyOfSpec : ChangeSpec := { name := "keyOf", fn := fun _ => fun
  | [d1, d2] => { results := [.lit (.bool true)], args := [d1, d2] }
  | _ => none }
def keyOfRow : OpenClaim := { program := "ytafbjkidgdpfoaa", sum := "173a7ff29647d3d6bfb59d5cc164643a5b0b1ae223f1cc2d32142b603031160e", func := "marcot/marcotlaw03.KeyOf", spec := "keyOf", apart := false }
def KeyOfSaid : Prop := keyOfRow.holds Try.pinned (OpenSpec.ofChange keyOfSpec)

/-- ITS FALSE NEIGHBOUR: 'it returns false'. Refute it at one input. -/
def keyOfWrong : ChangeSpec := { name := "keyOf", fn := fun _ => fun
  | [d1, d2] => { results := [.lit (.bool false)], args := [d1, d2] }
  | _ => none }
def KeyOfWrongFalsely : Prop := keyOfRow.holds Try.pinned (OpenSpec.ofChange keyOfWrong)

/-- 'marcotlaw03.KeyCuts': WHATEVER THE INPUT: true; the input reads as it did. -/
def keyCutsSpec : ChangeSpec := { name := "keyCuts", fn := fun _ => fun
  | [d1, d2, d3] => { results := [.lit (.bool true)], args := [d1, d2, d3] }
  | _ => none }
def keyCutsRow : OpenClaim := { program := "ytafbjkidgdpfoaa", sum := "173a7ff29647d3d6bfb59d5cc164643a5b0b1ae223f1cc2d32142b603031160e", func := "marcot/marcotlaw03.KeyCuts", spec := "keyCuts", apart := false }
def KeyCutsSaid : Prop := keyCutsRow.holds Try.pinned (OpenSpec.ofChange keyCutsSpec)

/-- ITS FALSE NEIGHBOUR: 'it returns false'. Refute it at one input. -/
def keyCutsWrong : ChangeSpec := { name := "keyCuts", fn := fun _ => fun
  | [d1, d2, d3] => { results := [.lit (.bool false)], args := [d1, d2, d3] }
  | _ => none }
def KeyCutsWrongFalsely : Prop := keyCutsRow.holds Try.pinned (OpenSpec.ofChange keyCutsWrong)

/-- 'marcotlaw03.KeyRanges': WHATEVER THE INPUT: true; the input reads as it did. -/
def keyRangesSpec : ChangeSpec := { name := "keyRanges", fn := fun _ => fun
  | [d1, d2, d3] => { results := [.lit (.bool true)], args := [d1, d2, d3] }
  | _ => none }
def keyRangesRow : OpenClaim := { program := "ytafbjkidgdpfoaa", sum := "173a7ff29647d3d6bfb59d5cc164643a5b0b1ae223f1cc2d32142b603031160e", func := "marcot/marcotlaw03.KeyRanges", spec := "keyRanges", recurses := true, apart := false }
def KeyRangesSaid : Prop := keyRangesRow.holds Try.pinned (OpenSpec.ofChange keyRangesSpec)

/-- ITS FALSE NEIGHBOUR: 'it returns false'. Refute it at one input. -/
def keyRangesWrong : ChangeSpec := { name := "keyRanges", fn := fun _ => fun
  | [d1, d2, d3] => { results := [.lit (.bool false)], args := [d1, d2, d3] }
  | _ => none }
def KeyRangesWrongFalsely : Prop := keyRangesRow.holds Try.pinned (OpenSpec.ofChange keyRangesWrong)

/-- 'marcotlaw04.LiftGoes': WHATEVER THE INPUT: true; the input reads as it did. -/
def liftGoesSpec : ChangeSpec := { name := "liftGoes", fn := fun _ => fun
  | [d1, d2, d3] => { results := [.lit (.bool true)], args := [d1, d2, d3] }
  | _ => none }
def liftGoesRow : OpenClaim := { program := "ytafbjkidgdpfoaa", sum := "173a7ff29647d3d6bfb59d5cc164643a5b0b1ae223f1cc2d32142b603031160e", func := "marcot/marcotlaw04.LiftGoes", spec := "liftGoes", recurses := true, apart := false }
def LiftGoesSaid : Prop := liftGoesRow.holds Try.pinned (OpenSpec.ofChange liftGoesSpec)

/-- ITS FALSE NEIGHBOUR: 'it returns false'. Refute it at one input. -/
def liftGoesWrong : ChangeSpec := { name := "liftGoes", fn := fun _ => fun
  | [d1, d2, d3] => { results := [.lit (.bool false)], args := [d1, d2, d3] }
  | _ => none }
def LiftGoesWrongFalsely : Prop := liftGoesRow.holds Try.pinned (OpenSpec.ofChange liftGoesWrong)

/-- 'marcotlaw04.LiftOver': WHATEVER THE INPUT: true; the input reads as it did. -/
def liftOverSpec : ChangeSpec := { name := "liftOver", fn := fun _ => fun
  | [d1, d2, d3] => { results := [.lit (.bool true)], args := [d1, d2, d3] }
  | _ => none }
def liftOverRow : OpenClaim := { program := "ytafbjkidgdpfoaa", sum := "173a7ff29647d3d6bfb59d5cc164643a5b0b1ae223f1cc2d32142b603031160e", func := "marcot/marcotlaw04.LiftOver", spec := "liftOver", apart := false }
def LiftOverSaid : Prop := liftOverRow.holds Try.pinned (OpenSpec.ofChange liftOverSpec)

/-- ITS FALSE NEIGHBOUR: 'it returns false'. Refute it at one input. -/
def liftOverWrong : ChangeSpec := { name := "liftOver", fn := fun _ => fun
  | [d1, d2, d3] => { results := [.lit (.bool false)], args := [d1, d2, d3] }
  | _ => none }
def LiftOverWrongFalsely : Prop := liftOverRow.holds Try.pinned (OpenSpec.ofChange liftOverWrong)

/- THE SECOND FORM. 'bulk': how many values and letters a reading holds, each counted each time it is reached (what is shared counts as often as it is met; a slice's spare places count too). A statement '..UptoSaid' is the law's where the arguments, and the package variables that the reading takes, are together of bulk at most 1048576: NARROWER than '..Said'. Prove '..Said' where nothing that the law and all that it calls make is longer than what came in: it says more and counts as full. Else prove '..UptoSaid'. A law counts once. -/
mutual
def uptoBulk {H : Type} : DataW H → Nat
  | .lit (.string bytes) => bytes.length + 1
  | .lit _ => 1
  | .nil => 1
  | .ptr d => uptoBulk d + 1
  | .slice elems spare => uptoBulkAll elems + uptoBulkAll spare + 1
  | .agg parts => uptoBulkAll parts + 1
  | .iface _ d => uptoBulk d + 1
  | .map entries => uptoBulkEntries entries + 1
  | .held _ => 1
def uptoBulkAll {H : Type} : List (DataW H) → Nat
  | [] => 0
  | d :: r => uptoBulk d + uptoBulkAll r
def uptoBulkEntries {H : Type} : List (Lit × DataW H) → Nat
  | [] => 0
  | x :: r => uptoBulkEntry x + uptoBulkEntries r
def uptoBulkEntry {H : Type} : Lit × DataW H → Nat
  | (.string bytes, d) => bytes.length + uptoBulk d + 1
  | (_, d) => uptoBulk d + 1
 end
def uptoSmall : (H : Type) → List (DataW H) → Bool := fun _ ds => decide (uptoBulkAll ds ≤ 1048576)
def OpenSpec.upto (s : _root_.Go.ChangeSpec) : _root_.Go.OpenSpec := { _root_.Go.OpenSpec.ofChange s with cond := some uptoSmall }

/-- 'marcotlaw04.LiftJoins', WHERE WHAT IT READS IS OF BULK AT MOST 1048576: true; the input reads as it did. -/
def liftJoinsUptoRow : OpenClaim := { program := "ytafbjkidgdpfoaa", sum := "173a7ff29647d3d6bfb59d5cc164643a5b0b1ae223f1cc2d32142b603031160e", func := "marcot/marcotlaw04.LiftJoins", spec := "liftJoins", apart := false, narrowed := true }
def LiftJoinsUptoSaid : Prop := liftJoinsUptoRow.holds Try.pinned (OpenSpec.upto liftJoinsSpec)

/-- 'marcotlaw04.LiftThree', WHERE WHAT IT READS IS OF BULK AT MOST 1048576: true; the input reads as it did. -/
def liftThreeUptoRow : OpenClaim := { program := "ytafbjkidgdpfoaa", sum := "173a7ff29647d3d6bfb59d5cc164643a5b0b1ae223f1cc2d32142b603031160e", func := "marcot/marcotlaw04.LiftThree", spec := "liftThree", apart := false, narrowed := true }
def LiftThreeUptoSaid : Prop := liftThreeUptoRow.holds Try.pinned (OpenSpec.upto liftThreeSpec)

/-- 'marcotlaw04.LiftBack', WHERE WHAT IT READS IS OF BULK AT MOST 1048576: true; the input reads as it did. -/
def liftBackUptoRow : OpenClaim := { program := "ytafbjkidgdpfoaa", sum := "173a7ff29647d3d6bfb59d5cc164643a5b0b1ae223f1cc2d32142b603031160e", func := "marcot/marcotlaw04.LiftBack", spec := "liftBack", apart := false, narrowed := true }
def LiftBackUptoSaid : Prop := liftBackUptoRow.holds Try.pinned (OpenSpec.upto liftBackSpec)

/-- 'marcotlaw03.KeyUnder', WHERE WHAT IT READS IS OF BULK AT MOST 1048576: true; the input reads as it did. -/
def keyUnderUptoRow : OpenClaim := { program := "ytafbjkidgdpfoaa", sum := "173a7ff29647d3d6bfb59d5cc164643a5b0b1ae223f1cc2d32142b603031160e", func := "marcot/marcotlaw03.KeyUnder", spec := "keyUnder", apart := false, narrowed := true }
def KeyUnderUptoSaid : Prop := keyUnderUptoRow.holds Try.pinned (OpenSpec.upto keyUnderSpec)

/-- 'marcotlaw03.KeyTexts', WHERE WHAT IT READS IS OF BULK AT MOST 1048576: true; the input reads as it did. -/
def keyTextsUptoRow : OpenClaim := { program := "ytafbjkidgdpfoaa", sum := "173a7ff29647d3d6bfb59d5cc164643a5b0b1ae223f1cc2d32142b603031160e", func := "marcot/marcotlaw03.KeyTexts", spec := "keyTexts", recurses := true, apart := false, narrowed := true }
def KeyTextsUptoSaid : Prop := keyTextsUptoRow.holds Try.pinned (OpenSpec.upto keyTextsSpec)

/-- 'marcotlaw03.KeyBetween', WHERE WHAT IT READS IS OF BULK AT MOST 1048576: true; the input reads as it did. -/
def keyBetweenUptoRow : OpenClaim := { program := "ytafbjkidgdpfoaa", sum := "173a7ff29647d3d6bfb59d5cc164643a5b0b1ae223f1cc2d32142b603031160e", func := "marcot/marcotlaw03.KeyBetween", spec := "keyBetween", apart := false, narrowed := true }
def KeyBetweenUptoSaid : Prop := keyBetweenUptoRow.holds Try.pinned (OpenSpec.upto keyBetweenSpec)

/-- 'marcotlaw03.KeyOf', WHERE WHAT IT READS IS OF BULK AT MOST 1048576: true; the input reads as it did. -/
def keyOfUptoRow : OpenClaim := { program := "ytafbjkidgdpfoaa", sum := "173a7ff29647d3d6bfb59d5cc164643a5b0b1ae223f1cc2d32142b603031160e", func := "marcot/marcotlaw03.KeyOf", spec := "keyOf", apart := false, narrowed := true }
def KeyOfUptoSaid : Prop := keyOfUptoRow.holds Try.pinned (OpenSpec.upto keyOfSpec)

/-- 'marcotlaw03.KeyCuts', WHERE WHAT IT READS IS OF BULK AT MOST 1048576: true; the input reads as it did. -/
def keyCutsUptoRow : OpenClaim := { program := "ytafbjkidgdpfoaa", sum := "173a7ff29647d3d6bfb59d5cc164643a5b0b1ae223f1cc2d32142b603031160e", func := "marcot/marcotlaw03.KeyCuts", spec := "keyCuts", apart := false, narrowed := true }
def KeyCutsUptoSaid : Prop := keyCutsUptoRow.holds Try.pinned (OpenSpec.upto keyCutsSpec)

/-- 'marcotlaw03.KeyRanges', WHERE WHAT IT READS IS OF BULK AT MOST 1048576: true; the input reads as it did. -/
def keyRangesUptoRow : OpenClaim := { program := "ytafbjkidgdpfoaa", sum := "173a7ff29647d3d6bfb59d5cc164643a5b0b1ae223f1cc2d32142b603031160e", func := "marcot/marcotlaw03.KeyRanges", spec := "keyRanges", recurses := true, apart := false, narrowed := true }
def KeyRangesUptoSaid : Prop := keyRangesUptoRow.holds Try.pinned (OpenSpec.upto keyRangesSpec)

/-- 'marcotlaw04.LiftGoes', WHERE WHAT IT READS IS OF BULK AT MOST 1048576: true; the input reads as it did. -/
def liftGoesUptoRow : OpenClaim := { program := "ytafbjkidgdpfoaa", sum := "173a7ff29647d3d6bfb59d5cc164643a5b0b1ae223f1cc2d32142b603031160e", func := "marcot/marcotlaw04.LiftGoes", spec := "liftGoes", recurses := true, apart := false, narrowed := true }
def LiftGoesUptoSaid : Prop := liftGoesUptoRow.holds Try.pinned (OpenSpec.upto liftGoesSpec)

/-- 'marcotlaw04.LiftOver', WHERE WHAT IT READS IS OF BULK AT MOST 1048576: true; the input reads as it did. -/
def liftOverUptoRow : OpenClaim := { program := "ytafbjkidgdpfoaa", sum := "173a7ff29647d3d6bfb59d5cc164643a5b0b1ae223f1cc2d32142b603031160e", func := "marcot/marcotlaw04.LiftOver", spec := "liftOver", apart := false, narrowed := true }
def LiftOverUptoSaid : Prop := liftOverUptoRow.holds Try.pinned (OpenSpec.upto liftOverSpec)

end Rows
end Go.Proofs.Ytafbjkidgdpfoaa
