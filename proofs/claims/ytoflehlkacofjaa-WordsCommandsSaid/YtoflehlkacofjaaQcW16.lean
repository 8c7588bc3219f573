/- Walk of the law WireOnly. -/
import Derived.Test.YtoflehlkacofjaaQcW14
import Derived.Deep.RegionHeld3
namespace Go.Proofs.Ytoflehlkacofjaa
open Go.ChangeShapes Go.WideShapes Go.ChangeAt Go.RowKit
set_option linter.unusedVariables false
namespace Form
def again (b : List UInt8) (a : Nat) (e : Int) (f : List UInt8) : Bool := if a = 0 then decide (done b.length a e ≠ 0) else decide (f = b.take a)
theorem unfold_bd (n : Nat) (h : n < 2 ^ 64) : -9223372036854775808 ≤ unfold_ n ∧ unfold_ n ≤ 9223372036854775807 := by
  unfold unfold_; split <;> omega
end Form
theorem Rdr.kept {w w' : World} {g : Nat} {v : Value} {a : Nat} {e : Int} (h : Rdr w g v a e) {row : Option Nat} (hg : w.grownBy w' row) (hne : some g ≠ row) : Rdr w' g v a e := by
  unfold Rdr at *
  rw [hg.block g (Array.getElem?_eq_some_iff.1 h).1 hne]; exact h

theorem Rdr.keeps {w w' : World} {g : Nat} {v : Value} {a : Nat} {e : Int} (h : Rdr w g v a e) (hk : Keeps w w') : Rdr w' g v a e := by
  unfold Rdr at *
  rw [hk g (Array.getElem?_eq_some_iff.1 h).1]; exact h
end Go.Proofs.Ytoflehlkacofjaa
