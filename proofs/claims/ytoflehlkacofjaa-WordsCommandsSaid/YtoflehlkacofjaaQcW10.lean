/- Walk of the law WireWrites. -/
import Derived.Test.YtoflehlkacofjaaQcW9
namespace Go.Proofs.Ytoflehlkacofjaa
open Go.ChangeShapes Go.WideShapes Go.ChangeAt Go.RowKit
set_option linter.unusedVariables false
theorem ownsRow_mono_base {w : World} {B base : Nat} {e : TypeId} {v : Value} {l : List UInt8} (h : OB w base e v l) (hB : B ≤ base) : OB w B e v l := by
  refine ⟨h.1, ?_⟩
  rcases h.2 with h2 | ⟨g, cap, cur, hv, hg, r⟩
  · exact .inl h2
  · exact .inr ⟨g, cap, cur, hv, Nat.le_trans hB hg, r⟩

end Go.Proofs.Ytoflehlkacofjaa
