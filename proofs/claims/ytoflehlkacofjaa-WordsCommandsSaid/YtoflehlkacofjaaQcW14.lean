/- Walk of the reader's Text. -/
import Derived.Test.YtoflehlkacofjaaQcW13
namespace Go.Proofs.Ytoflehlkacofjaa
open Go.ChangeShapes Go.WideShapes Go.ChangeAt Go.RowKit
set_option linter.unusedVariables false
theorem below_grown' {x y : World} {row : Option Nat} (h : Below x.heap.size x y) : x.grownBy y row := ⟨h.os, h.tape, h.output, h.size, fun k hk _ => h.block k hk⟩
end Go.Proofs.Ytoflehlkacofjaa
