/- The calls of a script, as they come in. -/
import Derived.Test.YtoflehlkacofjaaQaW19
namespace Go.Proofs.Ytoflehlkacofjaa
open Go.ChangeShapes Go.WideShapes Go.ChangeAt Go.RowKit Go.Deep
set_option linter.unusedVariables false
theorem list_of_fn {α : Type} [Inhabited α] (n : Nat) (p : Nat → α → Prop) (h : ∀ i, i < n → ∃ x, p i x) : ∃ l : List α, l.length = n ∧ ∀ i, i < n → p i (l.getD i default) := by
  obtain ⟨f, hf⟩ := choose_lt h
  refine ⟨(List.range n).map f, by simp, fun i hi => ?_⟩
  have : ((List.range n).map f).getD i default = f i := by
    rw [getD_of_lt _ _ _ (by simpa using hi)]; simp
  rw [this]; exact hf i hi

end Go.Proofs.Ytoflehlkacofjaa
