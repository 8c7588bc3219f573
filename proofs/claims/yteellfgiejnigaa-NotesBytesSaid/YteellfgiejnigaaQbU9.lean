/- The walk of the law NotesCut. -/
import Derived.Test.YteellfgiejnigaaQbU8
namespace Go.Proofs.Yteellfgiejnigaa
open Go.ChangeShapes Go.WideShapes Go.ChangeAt Go.RowKit
set_option linter.unusedVariables false
theorem RdB.first {w : World} {p : Option Addr} {n c : Nat} {l : List UInt8} (h : RdB w (.slice p n c) l) (j : Nat) (hj : j ≤ l.length) : RdB w (.slice p j c) (l.take j) := by
  obtain ⟨p', c', e, hp⟩ := h
  cases e
  exact ⟨p, c, by rw [List.length_take, Nat.min_eq_left hj], hp.take j⟩
end Go.Proofs.Yteellfgiejnigaa
