/- Two lists of a reply, compared. -/
import Derived.Test.YtoflehlkacofjaaQeK4
namespace Go.Proofs.Ytoflehlkacofjaa
open Go.ChangeShapes Go.WideShapes Go.ChangeAt Go.RowKit
set_option linter.unusedVariables false
/-- Two trades alike? -/
def Tr.sameB (x y : Tr) : Bool := (x.price == y.price) && ((x.qty == y.qty) && (((x.number : Int) == (y.number : Int)) && (((x.account : Int) == (y.account : Int)) && true)))
theorem Tr.same_iff (x y : Tr) : x.sameB y = true ↔ x = y := by
  obtain ⟨a, b, c, d⟩ := x
  obtain ⟨a', b', c', d'⟩ := y
  simp [Tr.sameB]
  intro _ _; omega
end Go.Proofs.Ytoflehlkacofjaa
