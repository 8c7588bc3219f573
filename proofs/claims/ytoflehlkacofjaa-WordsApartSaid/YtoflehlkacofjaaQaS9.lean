/- Walk of Read. -/
import Derived.Test.YtoflehlkacofjaaQaS8
namespace Go.Proofs.Ytoflehlkacofjaa
open Go.ChangeShapes Go.WideShapes Go.ChangeAt Go.RowKit
set_option linter.unusedVariables false
namespace Sp
/-- The form is read whole. -/
def goodB (b : List UInt8) : Bool := (taken b 0 0).mayB && (decide ((Form.rst b 0 0 25).2 = 0) && decide (b.length ≤ (Form.rst b 0 0 25).1))
def back (b : List UInt8) : Sp := if goodB b then taken b 0 0 else zero
end Sp
end Go.Proofs.Ytoflehlkacofjaa
