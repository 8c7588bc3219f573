/- Walks of the laws' lent and kept, and of wire.Flag. -/
import Derived.Test.YtoflehlkacofjaaQcW7
namespace Go.Proofs.Ytoflehlkacofjaa
open Go.ChangeShapes Go.WideShapes Go.ChangeAt Go.RowKit
set_option linter.unusedVariables false
/-- A row of these bytes, and behind it one more, that is marked. -/
def Marked (base : Nat) (l : List UInt8) (v : Value) (w : World) : Prop := ∃ g c, v = .slice (some ⟨g, 0, none⟩) l.length c ∧ OB w base 5 (.slice (some ⟨g, 0, none⟩) (l.length + 1) c) (l ++ [77])
theorem Marked.keeps {base : Nat} {l : List UInt8} {v : Value} {x y : World} (h : Marked base l v x) (hk : Keeps x y) : Marked base l v y := by
  obtain ⟨g, c, e, h⟩ := h
  exact ⟨g, c, e, h.keeps hk⟩
theorem Marked.rd {base : Nat} {l : List UInt8} {v : Value} {w : World} (h : Marked base l v w) : RdB w v l := by
  obtain ⟨g, c, rfl, h⟩ := h
  rw [show l.length + 1 = (l ++ [77]).length by simp] at h
  obtain ⟨p', cap, e, hp⟩ := h.rd
  cases e
  have := hp.take l.length
  rw [List.take_left] at this
  exact ⟨_, _, rfl, this⟩

end Go.Proofs.Ytoflehlkacofjaa
