/- The data of a contract: prices, quantities, bands. -/
import Derived.Test.YtoflehlkacofjaaQcS3
namespace Go.Proofs.Ytoflehlkacofjaa
open Go.ChangeShapes Go.WideShapes Go.ChangeAt Go.RowKit
set_option linter.unusedVariables false
namespace Sp
end Sp
/-- The data at block B read whole. -/
theorem SpAt.below {w w' : World} {B : Nat} {s : Sp} (h : SpAt w B s) (hB : Below w.heap.size w w') : SpAt w' B s := by
  unfold SpAt at *
  rw [hB.block B (Array.getElem?_eq_some_iff.1 h).1]; exact h

end Go.Proofs.Ytoflehlkacofjaa
