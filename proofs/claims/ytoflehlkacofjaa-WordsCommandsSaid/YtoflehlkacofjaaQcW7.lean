/- Walks of wire.Text and of the law WirePrefix. -/
import Derived.Test.YtoflehlkacofjaaQcW5
import Derived.WalkSmall
namespace Go.Proofs.Ytoflehlkacofjaa
open Go.ChangeShapes Go.WideShapes Go.ChangeAt Go.RowKit
set_option linter.unusedVariables false
namespace Form
end Form
theorem drewN_same (w : World) (k : Nat) : RegT.Same w (w.drewN k) := ⟨rfl, rfl, rfl, rfl⟩

end Go.Proofs.Ytoflehlkacofjaa
