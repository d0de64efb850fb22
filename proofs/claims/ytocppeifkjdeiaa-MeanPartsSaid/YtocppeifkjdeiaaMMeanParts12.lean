/- What the statement MeanParts needs, part 12. Under no condition. -/
import Derived.Laws.IdiomCopy
import Derived.Test.YtocppeifkjdeiaaMMeanParts11
/- Slices whose capacity is known. Under no condition. -/
namespace Go.Proofs.Ytocppeifkjdeiaa.Mv
open Go Go.Proofs
set_option linter.unusedSimpArgs false
set_option linter.unusedVariables false
section
variable {P : Program} {tab : Tab} {N : Nat} {D : St → Prop} {F : Fx P tab N D} {ops : Array Oper} {k : List It} {l : List Oper} {T : List (Nat × AV)} {B : List (Nat × Ob)} {d ty : Nat} {pos : String} {after : Array Edge} {st : St}
  {t u : TypeId} {i j iu : TyI} {e : TypeId} {x y : Operand}
end
end Go.Proofs.Ytocppeifkjdeiaa.Mv
