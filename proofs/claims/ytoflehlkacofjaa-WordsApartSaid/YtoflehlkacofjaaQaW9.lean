/- Walks of the document's forms (numbers, whole numbers, flags, texts), of wire.Flag and of the law's own. -/
import Derived.Test.YtoflehlkacofjaaQaW8
namespace Go.Proofs.Ytoflehlkacofjaa
open Go.ChangeShapes Go.WideShapes Go.ChangeAt Go.RowKit
set_option linter.unusedVariables false
def Form.flag (f : Bool) : List UInt8 := [if f then 1 else 0]
end Go.Proofs.Ytoflehlkacofjaa
