/- Walk of the document's Text. -/
import Derived.Test.YtoflehlkacofjaaQcW17
namespace Go.Proofs.Ytoflehlkacofjaa
open Go.ChangeShapes Go.WideShapes Go.ChangeAt Go.RowKit
set_option linter.unusedVariables false
theorem RRd.keeps {w w' : World} {g : Nat} {T : TypeId} {v : Value} {e : Int} (h : RRd w g T v e) (hk : Keeps w w') : RRd w' g T v e := by
  unfold RRd at *
  rw [hk g (Array.getElem?_eq_some_iff.1 h).1]; exact h
end Go.Proofs.Ytoflehlkacofjaa
