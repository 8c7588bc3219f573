/- Walk of the law WireOnly. -/
import Derived.Test.YtoflehlkacofjaaQaW12
import Derived.Deep.RegionHeld3
namespace Go.Proofs.Ytoflehlkacofjaa
open Go.ChangeShapes Go.WideShapes Go.ChangeAt Go.RowKit
set_option linter.unusedVariables false
namespace Form
end Form
theorem Rdr.kept {w w' : World} {g : Nat} {v : Value} {a : Nat} {e : Int} (h : Rdr w g v a e) {row : Option Nat} (hg : w.grownBy w' row) (hne : some g ≠ row) : Rdr w' g v a e := by
  unfold Rdr at *
  rw [hg.block g (Array.getElem?_eq_some_iff.1 h).1 hne]; exact h

theorem Rdr.keeps {w w' : World} {g : Nat} {v : Value} {a : Nat} {e : Int} (h : Rdr w g v a e) (hk : Keeps w w') : Rdr w' g v a e := by
  unfold Rdr at *
  rw [hk g (Array.getElem?_eq_some_iff.1 h).1]; exact h
end Go.Proofs.Ytoflehlkacofjaa
