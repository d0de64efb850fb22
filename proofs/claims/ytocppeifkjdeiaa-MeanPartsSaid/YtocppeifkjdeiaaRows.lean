/-
  No cell of these rows narrows 'for every input' (looked for: loops, veiled, ifaces, maps, wideKeys, modest, calm, conditions, laid).
  DERIVED. THE GIVEN ROWS OF THIS SEAT. 12 by the template 'for every input the law returns true; each argument reads behind the call as it read before'; 0 by the template 'total and deterministic' (their statements: YtocppeifkjdeiaaTotals.lean).
  GIVEN WITH THE SEED: the statements are not yours to turn. If you find one false, say at which input.
  Laid BY PROGRAM, IN A SANDBOX (cutbox-rows.mjs): the forced cells as the released guide's own fill.sh prints them over the translation 0d15715ba33400f3… (all of the seat's roots in one cut). By AI agents, Wed Nov 11 2026. No macro, syntax, notation, axiom, sorry.
-/
import Derived.Test.YtocppeifkjdeiaaChecked
import GoSem.Claim
import GoSem.ClaimJoined
import GoSem.ClaimMapViews
import Derived.JoinedTies
import Derived.KernelRfl
namespace Go.Proofs.Ytocppeifkjdeiaa
/- THE CELL 'sum', in the pinned program and in every row, IS THE sha256 OF THE DUMP (.gsa) THAT YtocppeifkjdeiaaProg.lean LOADS. Nothing in Lean hashes anything: it is a label: what it is worth is what the hold of that sum in a sandbox is worth. -/
noncomputable def Try.pinned : Pinned := { name := "ytocppeifkjdeiaa", sum := "0d15715ba33400f3bc9f150f7577acec68affdf8597f7c61faa43ad81e04e590", checked := Try.checked }
namespace Rows
def none {H : Type} : Left H := { results := [], args := [] }

/-- 'marcotlaw12.SplitJoins': WHATEVER THE INPUT: true; the input reads as it did. -/
def splitJoinsSpec : ChangeSpec := { name := "splitJoins", fn := fun _ => fun
  | [d1, d2, d3, d4] => { results := [.lit (.bool true)], args := [d1, d2, d3, d4] }
  | _ => none }
def splitJoinsRow : OpenClaim := { program := "ytocppeifkjdeiaa", sum := "0d15715ba33400f3bc9f150f7577acec68affdf8597f7c61faa43ad81e04e590", func := "marcot/marcotlaw12.SplitJoins", spec := "splitJoins", unfollowed := true, recurses := true, apart := false }
def SplitJoinsSaid : Prop := splitJoinsRow.holds Try.pinned (OpenSpec.ofChange splitJoinsSpec)

/-- ITS FALSE NEIGHBOUR: 'it returns false'. Refute it at one input. -/
def splitJoinsWrong : ChangeSpec := { name := "splitJoins", fn := fun _ => fun
  | [d1, d2, d3, d4] => { results := [.lit (.bool false)], args := [d1, d2, d3, d4] }
  | _ => none }
def SplitJoinsWrongFalsely : Prop := splitJoinsRow.holds Try.pinned (OpenSpec.ofChange splitJoinsWrong)

/-- 'marcotlaw11.TrimParts': WHATEVER THE INPUT: true; the input reads as it did. -/
def trimPartsSpec : ChangeSpec := { name := "trimParts", fn := fun _ => fun
  | [d1, d2, d3] => { results := [.lit (.bool true)], args := [d1, d2, d3] }
  | _ => none }
def trimPartsRow : OpenClaim := { program := "ytocppeifkjdeiaa", sum := "0d15715ba33400f3bc9f150f7577acec68affdf8597f7c61faa43ad81e04e590", func := "marcot/marcotlaw11.TrimParts", spec := "trimParts", unfollowed := true, recurses := true, apart := false }
def TrimPartsSaid : Prop := trimPartsRow.holds Try.pinned (OpenSpec.ofChange trimPartsSpec)

/-- ITS FALSE NEIGHBOUR: 'it returns false'. Refute it at one input. -/
def trimPartsWrong : ChangeSpec := { name := "trimParts", fn := fun _ => fun
  | [d1, d2, d3] => { results := [.lit (.bool false)], args := [d1, d2, d3] }
  | _ => none }
def TrimPartsWrongFalsely : Prop := trimPartsRow.holds Try.pinned (OpenSpec.ofChange trimPartsWrong)

/-- 'marcotlaw11.TrimLeads': WHATEVER THE INPUT: true; the input reads as it did. -/
def trimLeadsSpec : ChangeSpec := { name := "trimLeads", fn := fun _ => fun
  | [d1, d2, d3, d4] => { results := [.lit (.bool true)], args := [d1, d2, d3, d4] }
  | _ => none }
def trimLeadsRow : OpenClaim := { program := "ytocppeifkjdeiaa", sum := "0d15715ba33400f3bc9f150f7577acec68affdf8597f7c61faa43ad81e04e590", func := "marcot/marcotlaw11.TrimLeads", spec := "trimLeads", unfollowed := true, recurses := true, apart := false }
def TrimLeadsSaid : Prop := trimLeadsRow.holds Try.pinned (OpenSpec.ofChange trimLeadsSpec)

/-- ITS FALSE NEIGHBOUR: 'it returns false'. Refute it at one input. -/
def trimLeadsWrong : ChangeSpec := { name := "trimLeads", fn := fun _ => fun
  | [d1, d2, d3, d4] => { results := [.lit (.bool false)], args := [d1, d2, d3, d4] }
  | _ => none }
def TrimLeadsWrongFalsely : Prop := trimLeadsRow.holds Try.pinned (OpenSpec.ofChange trimLeadsWrong)

/-- 'marcotlaw11.TrimTwice': WHATEVER THE INPUT: true; the input reads as it did. -/
def trimTwiceSpec : ChangeSpec := { name := "trimTwice", fn := fun _ => fun
  | [d1, d2, d3, d4, d5] => { results := [.lit (.bool true)], args := [d1, d2, d3, d4, d5] }
  | _ => none }
def trimTwiceRow : OpenClaim := { program := "ytocppeifkjdeiaa", sum := "0d15715ba33400f3bc9f150f7577acec68affdf8597f7c61faa43ad81e04e590", func := "marcot/marcotlaw11.TrimTwice", spec := "trimTwice", unfollowed := true, recurses := true, apart := false }
def TrimTwiceSaid : Prop := trimTwiceRow.holds Try.pinned (OpenSpec.ofChange trimTwiceSpec)

/-- ITS FALSE NEIGHBOUR: 'it returns false'. Refute it at one input. -/
def trimTwiceWrong : ChangeSpec := { name := "trimTwice", fn := fun _ => fun
  | [d1, d2, d3, d4, d5] => { results := [.lit (.bool false)], args := [d1, d2, d3, d4, d5] }
  | _ => none }
def TrimTwiceWrongFalsely : Prop := trimTwiceRow.holds Try.pinned (OpenSpec.ofChange trimTwiceWrong)

/-- 'marcotlaw11.TrimShifts': WHATEVER THE INPUT: true; the input reads as it did. -/
def trimShiftsSpec : ChangeSpec := { name := "trimShifts", fn := fun _ => fun
  | [d1, d2, d3] => { results := [.lit (.bool true)], args := [d1, d2, d3] }
  | _ => none }
def trimShiftsRow : OpenClaim := { program := "ytocppeifkjdeiaa", sum := "0d15715ba33400f3bc9f150f7577acec68affdf8597f7c61faa43ad81e04e590", func := "marcot/marcotlaw11.TrimShifts", spec := "trimShifts", unfollowed := true, recurses := true, apart := false }
def TrimShiftsSaid : Prop := trimShiftsRow.holds Try.pinned (OpenSpec.ofChange trimShiftsSpec)

/-- ITS FALSE NEIGHBOUR: 'it returns false'. Refute it at one input. -/
def trimShiftsWrong : ChangeSpec := { name := "trimShifts", fn := fun _ => fun
  | [d1, d2, d3] => { results := [.lit (.bool false)], args := [d1, d2, d3] }
  | _ => none }
def TrimShiftsWrongFalsely : Prop := trimShiftsRow.holds Try.pinned (OpenSpec.ofChange trimShiftsWrong)

/-- 'marcotlaw12.SplitPieces': WHATEVER THE INPUT: true; the input reads as it did. -/
def splitPiecesSpec : ChangeSpec := { name := "splitPieces", fn := fun _ => fun
  | [d1, d2, d3, d4] => { results := [.lit (.bool true)], args := [d1, d2, d3, d4] }
  | _ => none }
def splitPiecesRow : OpenClaim := { program := "ytocppeifkjdeiaa", sum := "0d15715ba33400f3bc9f150f7577acec68affdf8597f7c61faa43ad81e04e590", func := "marcot/marcotlaw12.SplitPieces", spec := "splitPieces", unfollowed := true, recurses := true, apart := false }
def SplitPiecesSaid : Prop := splitPiecesRow.holds Try.pinned (OpenSpec.ofChange splitPiecesSpec)

/-- ITS FALSE NEIGHBOUR: 'it returns false'. Refute it at one input. -/
def splitPiecesWrong : ChangeSpec := { name := "splitPieces", fn := fun _ => fun
  | [d1, d2, d3, d4] => { results := [.lit (.bool false)], args := [d1, d2, d3, d4] }
  | _ => none }
def SplitPiecesWrongFalsely : Prop := splitPiecesRow.holds Try.pinned (OpenSpec.ofChange splitPiecesWrong)

/-- 'marcotlaw12.SplitLeads': WHATEVER THE INPUT: true; the input reads as it did. -/
def splitLeadsSpec : ChangeSpec := { name := "splitLeads", fn := fun _ => fun
  | [d1, d2, d3, d4, d5] => { results := [.lit (.bool true)], args := [d1, d2, d3, d4, d5] }
  | _ => none }
def splitLeadsRow : OpenClaim := { program := "ytocppeifkjdeiaa", sum := "0d15715ba33400f3bc9f150f7577acec68affdf8597f7c61faa43ad81e04e590", func := "marcot/marcotlaw12.SplitLeads", spec := "splitLeads", unfollowed := true, recurses := true, apart := false }
def SplitLeadsSaid : Prop := splitLeadsRow.holds Try.pinned (OpenSpec.ofChange splitLeadsSpec)

/-- ITS FALSE NEIGHBOUR: 'it returns false'. Refute it at one input. -/
def splitLeadsWrong : ChangeSpec := { name := "splitLeads", fn := fun _ => fun
  | [d1, d2, d3, d4, d5] => { results := [.lit (.bool false)], args := [d1, d2, d3, d4, d5] }
  | _ => none }
def SplitLeadsWrongFalsely : Prop := splitLeadsRow.holds Try.pinned (OpenSpec.ofChange splitLeadsWrong)

/-- 'marcotlaw10.MeanGets': WHATEVER THE INPUT: true; the input reads as it did. -/
def meanGetsSpec : ChangeSpec := { name := "meanGets", fn := fun _ => fun
  | [d1, d2, d3] => { results := [.lit (.bool true)], args := [d1, d2, d3] }
  | _ => none }
def meanGetsRow : OpenClaim := { program := "ytocppeifkjdeiaa", sum := "0d15715ba33400f3bc9f150f7577acec68affdf8597f7c61faa43ad81e04e590", func := "marcot/marcotlaw10.MeanGets", spec := "meanGets", unfollowed := true, recurses := true, apart := false }
def MeanGetsSaid : Prop := meanGetsRow.holds Try.pinned (OpenSpec.ofChange meanGetsSpec)

/-- ITS FALSE NEIGHBOUR: 'it returns false'. Refute it at one input. -/
def meanGetsWrong : ChangeSpec := { name := "meanGets", fn := fun _ => fun
  | [d1, d2, d3] => { results := [.lit (.bool false)], args := [d1, d2, d3] }
  | _ => none }
def MeanGetsWrongFalsely : Prop := meanGetsRow.holds Try.pinned (OpenSpec.ofChange meanGetsWrong)

/-- 'marcotlaw12.SplitHalves': WHATEVER THE INPUT: true; the input reads as it did. -/
def splitHalvesSpec : ChangeSpec := { name := "splitHalves", fn := fun _ => fun
  | [d] => { results := [.lit (.bool true)], args := [d] }
  | _ => none }
def splitHalvesRow : OpenClaim := { program := "ytocppeifkjdeiaa", sum := "0d15715ba33400f3bc9f150f7577acec68affdf8597f7c61faa43ad81e04e590", func := "marcot/marcotlaw12.SplitHalves", spec := "splitHalves", unfollowed := true, recurses := true, apart := false }
def SplitHalvesSaid : Prop := splitHalvesRow.holds Try.pinned (OpenSpec.ofChange splitHalvesSpec)

/-- ITS FALSE NEIGHBOUR: 'it returns false'. Refute it at one input. -/
def splitHalvesWrong : ChangeSpec := { name := "splitHalves", fn := fun _ => fun
  | [d] => { results := [.lit (.bool false)], args := [d] }
  | _ => none }
def SplitHalvesWrongFalsely : Prop := splitHalvesRow.holds Try.pinned (OpenSpec.ofChange splitHalvesWrong)

/-- 'marcotlaw10.MeanPairs': WHATEVER THE INPUT: true; the input reads as it did. -/
def meanPairsSpec : ChangeSpec := { name := "meanPairs", fn := fun _ => fun
  | [d1, d2, d3, d4] => { results := [.lit (.bool true)], args := [d1, d2, d3, d4] }
  | _ => none }
def meanPairsRow : OpenClaim := { program := "ytocppeifkjdeiaa", sum := "0d15715ba33400f3bc9f150f7577acec68affdf8597f7c61faa43ad81e04e590", func := "marcot/marcotlaw10.MeanPairs", spec := "meanPairs", unfollowed := true, recurses := true, apart := false }
def MeanPairsSaid : Prop := meanPairsRow.holds Try.pinned (OpenSpec.ofChange meanPairsSpec)

/-- ITS FALSE NEIGHBOUR: 'it returns false'. Refute it at one input. -/
def meanPairsWrong : ChangeSpec := { name := "meanPairs", fn := fun _ => fun
  | [d1, d2, d3, d4] => { results := [.lit (.bool false)], args := [d1, d2, d3, d4] }
  | _ => none }
def MeanPairsWrongFalsely : Prop := meanPairsRow.holds Try.pinned (OpenSpec.ofChange meanPairsWrong)

/-- 'marcotlaw10.MeanAgrees': WHATEVER THE INPUT: true; the input reads as it did. -/
def meanAgreesSpec : ChangeSpec := { name := "meanAgrees", fn := fun _ => fun
  | [d1, d2, d3, d4] => { results := [.lit (.bool true)], args := [d1, d2, d3, d4] }
  | _ => none }
def meanAgreesRow : OpenClaim := { program := "ytocppeifkjdeiaa", sum := "0d15715ba33400f3bc9f150f7577acec68affdf8597f7c61faa43ad81e04e590", func := "marcot/marcotlaw10.MeanAgrees", spec := "meanAgrees", unfollowed := true, recurses := true, apart := false }
def MeanAgreesSaid : Prop := meanAgreesRow.holds Try.pinned (OpenSpec.ofChange meanAgreesSpec)

/-- ITS FALSE NEIGHBOUR: 'it returns false'. Refute it at one input. -/
def meanAgreesWrong : ChangeSpec := { name := "meanAgrees", fn := fun _ => fun
  | [d1, d2, d3, d4] => { results := [.lit (.bool false)], args := [d1, d2, d3, d4] }
  | _ => none }
def MeanAgreesWrongFalsely : Prop := meanAgreesRow.holds Try.pinned (OpenSpec.ofChange meanAgreesWrong)

/-- 'marcotlaw10.MeanParts': WHATEVER THE INPUT: true; the input reads as it did. -/
def meanPartsSpec : ChangeSpec := { name := "meanParts", fn := fun _ => fun
  | [d1, d2, d3, d4, d5] => { results := [.lit (.bool true)], args := [d1, d2, d3, d4, d5] }
  | _ => none }
def meanPartsRow : OpenClaim := { program := "ytocppeifkjdeiaa", sum := "0d15715ba33400f3bc9f150f7577acec68affdf8597f7c61faa43ad81e04e590", func := "marcot/marcotlaw10.MeanParts", spec := "meanParts", unfollowed := true, recurses := true, apart := false }
def MeanPartsSaid : Prop := meanPartsRow.holds Try.pinned (OpenSpec.ofChange meanPartsSpec)

/-- ITS FALSE NEIGHBOUR: 'it returns false'. Refute it at one input. -/
def meanPartsWrong : ChangeSpec := { name := "meanParts", fn := fun _ => fun
  | [d1, d2, d3, d4, d5] => { results := [.lit (.bool false)], args := [d1, d2, d3, d4, d5] }
  | _ => none }
def MeanPartsWrongFalsely : Prop := meanPartsRow.holds Try.pinned (OpenSpec.ofChange meanPartsWrong)

/- THE SECOND FORM. 'bulk': how many values and letters a reading holds, each counted each time it is reached (what is shared counts as often as it is met; a slice's spare places count too). A statement '..UptoSaid' is the law's where the arguments, and the package variables that the reading takes, are together of bulk at most 1048576: NARROWER than '..Said'. Prove '..Said' where nothing that the law and all that it calls make is longer than what came in: it says more and counts as full. Else prove '..UptoSaid'. A law counts once. -/
mutual
def uptoBulk {H : Type} : DataW H → Nat
  | .lit (.string bytes) => bytes.length + 1
  | .lit _ => 1
  | .nil => 1
  | .ptr d => uptoBulk d + 1
  | .slice elems spare => uptoBulkAll elems + uptoBulkAll spare + 1
  | .agg parts => uptoBulkAll parts + 1
  | .iface _ d => uptoBulk d + 1
  | .map entries => uptoBulkEntries entries + 1
  | .held _ => 1
def uptoBulkAll {H : Type} : List (DataW H) → Nat
  | [] => 0
  | d :: r => uptoBulk d + uptoBulkAll r
def uptoBulkEntries {H : Type} : List (Lit × DataW H) → Nat
  | [] => 0
  | x :: r => uptoBulkEntry x + uptoBulkEntries r
def uptoBulkEntry {H : Type} : Lit × DataW H → Nat
  | (.string bytes, d) => bytes.length + uptoBulk d + 1
  | (_, d) => uptoBulk d + 1
 end
def uptoSmall : (H : Type) → List (DataW H) → Bool := fun _ ds => decide (uptoBulkAll ds ≤ 1048576)
def OpenSpec.upto (s : _root_.Go.ChangeSpec) : _root_.Go.OpenSpec := { _root_.Go.OpenSpec.ofChange s with cond := some uptoSmall }

/-- 'marcotlaw12.SplitJoins', WHERE WHAT IT READS IS OF BULK AT MOST 1048576: true; the input reads as it did. -/
def splitJoinsUptoRow : OpenClaim := { program := "ytocppeifkjdeiaa", sum := "0d15715ba33400f3bc9f150f7577acec68affdf8597f7c61faa43ad81e04e590", func := "marcot/marcotlaw12.SplitJoins", spec := "splitJoins", unfollowed := true, recurses := true, apart := false, narrowed := true }
def SplitJoinsUptoSaid : Prop := splitJoinsUptoRow.holds Try.pinned (OpenSpec.upto splitJoinsSpec)

/-- 'marcotlaw11.TrimParts', WHERE WHAT IT READS IS OF BULK AT MOST 1048576: true; the input reads as it did. -/
def trimPartsUptoRow : OpenClaim := { program := "ytocppeifkjdeiaa", sum := "0d15715ba33400f3bc9f150f7577acec68affdf8597f7c61faa43ad81e04e590", func := "marcot/marcotlaw11.TrimParts", spec := "trimParts", unfollowed := true, recurses := true, apart := false, narrowed := true }
def TrimPartsUptoSaid : Prop := trimPartsUptoRow.holds Try.pinned (OpenSpec.upto trimPartsSpec)

/-- 'marcotlaw11.TrimLeads', WHERE WHAT IT READS IS OF BULK AT MOST 1048576: true; the input reads as it did. -/
def trimLeadsUptoRow : OpenClaim := { program := "ytocppeifkjdeiaa", sum := "0d15715ba33400f3bc9f150f7577acec68affdf8597f7c61faa43ad81e04e590", func := "marcot/marcotlaw11.TrimLeads", spec := "trimLeads", unfollowed := true, recurses := true, apart := false, narrowed := true }
def TrimLeadsUptoSaid : Prop := trimLeadsUptoRow.holds Try.pinned (OpenSpec.upto trimLeadsSpec)

/-- 'marcotlaw11.TrimTwice', WHERE WHAT IT READS IS OF BULK AT MOST 1048576: true; the input reads as it did. -/
def trimTwiceUptoRow : OpenClaim := { program := "ytocppeifkjdeiaa", sum := "0d15715ba33400f3bc9f150f7577acec68affdf8597f7c61faa43ad81e04e590", func := "marcot/marcotlaw11.TrimTwice", spec := "trimTwice", unfollowed := true, recurses := true, apart := false, narrowed := true }
def TrimTwiceUptoSaid : Prop := trimTwiceUptoRow.holds Try.pinned (OpenSpec.upto trimTwiceSpec)

/-- 'marcotlaw11.TrimShifts', WHERE WHAT IT READS IS OF BULK AT MOST 1048576: true; the input reads as it did. -/
def trimShiftsUptoRow : OpenClaim := { program := "ytocppeifkjdeiaa", sum := "0d15715ba33400f3bc9f150f7577acec68affdf8597f7c61faa43ad81e04e590", func := "marcot/marcotlaw11.TrimShifts", spec := "trimShifts", unfollowed := true, recurses := true, apart := false, narrowed := true }
def TrimShiftsUptoSaid : Prop := trimShiftsUptoRow.holds Try.pinned (OpenSpec.upto trimShiftsSpec)

/-- 'marcotlaw12.SplitPieces', WHERE WHAT IT READS IS OF BULK AT MOST 1048576: true; the input reads as it did. -/
def splitPiecesUptoRow : OpenClaim := { program := "ytocppeifkjdeiaa", sum := "0d15715ba33400f3bc9f150f7577acec68affdf8597f7c61faa43ad81e04e590", func := "marcot/marcotlaw12.SplitPieces", spec := "splitPieces", unfollowed := true, recurses := true, apart := false, narrowed := true }
def SplitPiecesUptoSaid : Prop := splitPiecesUptoRow.holds Try.pinned (OpenSpec.upto splitPiecesSpec)

/-- 'marcotlaw12.SplitLeads', WHERE WHAT IT READS IS OF BULK AT MOST 1048576: true; the input reads as it did. -/
def splitLeadsUptoRow : OpenClaim := { program := "ytocppeifkjdeiaa", sum := "0d15715ba33400f3bc9f150f7577acec68affdf8597f7c61faa43ad81e04e590", func := "marcot/marcotlaw12.SplitLeads", spec := "splitLeads", unfollowed := true, recurses := true, apart := false, narrowed := true }
def SplitLeadsUptoSaid : Prop := splitLeadsUptoRow.holds Try.pinned (OpenSpec.upto splitLeadsSpec)

/-- 'marcotlaw10.MeanGets', WHERE WHAT IT READS IS OF BULK AT MOST 1048576: true; the input reads as it did. -/
def meanGetsUptoRow : OpenClaim := { program := "ytocppeifkjdeiaa", sum := "0d15715ba33400f3bc9f150f7577acec68affdf8597f7c61faa43ad81e04e590", func := "marcot/marcotlaw10.MeanGets", spec := "meanGets", unfollowed := true, recurses := true, apart := false, narrowed := true }
def MeanGetsUptoSaid : Prop := meanGetsUptoRow.holds Try.pinned (OpenSpec.upto meanGetsSpec)

/-- 'marcotlaw12.SplitHalves', WHERE WHAT IT READS IS OF BULK AT MOST 1048576: true; the input reads as it did. -/
def splitHalvesUptoRow : OpenClaim := { program := "ytocppeifkjdeiaa", sum := "0d15715ba33400f3bc9f150f7577acec68affdf8597f7c61faa43ad81e04e590", func := "marcot/marcotlaw12.SplitHalves", spec := "splitHalves", unfollowed := true, recurses := true, apart := false, narrowed := true }
def SplitHalvesUptoSaid : Prop := splitHalvesUptoRow.holds Try.pinned (OpenSpec.upto splitHalvesSpec)

/-- 'marcotlaw10.MeanPairs', WHERE WHAT IT READS IS OF BULK AT MOST 1048576: true; the input reads as it did. -/
def meanPairsUptoRow : OpenClaim := { program := "ytocppeifkjdeiaa", sum := "0d15715ba33400f3bc9f150f7577acec68affdf8597f7c61faa43ad81e04e590", func := "marcot/marcotlaw10.MeanPairs", spec := "meanPairs", unfollowed := true, recurses := true, apart := false, narrowed := true }
def MeanPairsUptoSaid : Prop := meanPairsUptoRow.holds Try.pinned (OpenSpec.upto meanPairsSpec)

/-- 'marcotlaw10.MeanAgrees', WHERE WHAT IT READS IS OF BULK AT MOST 1048576: true; the input reads as it did. -/
def meanAgreesUptoRow : OpenClaim := { program := "ytocppeifkjdeiaa", sum := "0d15715ba33400f3bc9f150f7577acec68affdf8597f7c61faa43ad81e04e590", func := "marcot/marcotlaw10.MeanAgrees", spec := "meanAgrees", unfollowed := true, recurses := true, apart := false, narrowed := true }
def MeanAgreesUptoSaid : Prop := meanAgreesUptoRow.holds Try.pinned (OpenSpec.upto meanAgreesSpec)

/-- 'marcotlaw10.MeanParts', WHERE WHAT IT READS IS OF BULK AT MOST 1048576: true; the input reads as it did. -/
def meanPartsUptoRow : OpenClaim := { program := "ytocppeifkjdeiaa", sum := "0d15715ba33400f3bc9f150f7577acec68affdf8597f7c61faa43ad81e04e590", func := "marcot/marcotlaw10.MeanParts", spec := "meanParts", unfollowed := true, recurses := true, apart := false, narrowed := true }
def MeanPartsUptoSaid : Prop := meanPartsUptoRow.holds Try.pinned (OpenSpec.upto meanPartsSpec)

end Rows
end Go.Proofs.Ytocppeifkjdeiaa
