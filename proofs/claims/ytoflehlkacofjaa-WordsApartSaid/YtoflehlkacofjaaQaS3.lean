/- The data of a contract: the document's May. -/
import Derived.Test.YtoflehlkacofjaaQaS2
namespace Go.Proofs.Ytoflehlkacofjaa
open Go.ChangeShapes Go.WideShapes Go.ChangeAt Go.RowKit
set_option linter.unusedVariables false
theorem SpAt.sh {w : World} {B : Nat} {s : Sp} (h : SpAt w B s) (k : Nat) (hk : k < 16) : w.cell? ⟨B, 6 + k, none⟩ = some (.int .i64 (s.sh k)) := by rw [h.at, s.sh_at k hk]

end Go.Proofs.Ytoflehlkacofjaa
