/- Walk of Read. -/
import Derived.Test.YtoflehlkacofjaaQcS8
namespace Go.Proofs.Ytoflehlkacofjaa
open Go.ChangeShapes Go.WideShapes Go.ChangeAt Go.RowKit
set_option linter.unusedVariables false
theorem results_cell_tmp {fn : Func} {p q : Tmp} {ty : TypeId} (h : fn.results = #[.cell p ty, .tmp q]) (tmps : Array Value) (w : World) (g : Nat) (t : TypeId) (cs : Array Value) (fr : Nat × Nat) (d : TypeDesc) (x : Value)
    (hp : tmps.getD p undef = .pointer (some ⟨g, 0, none⟩)) (hq : tmps.getD q undef = x) (hg : w.heap[g]? = some (.cells cs t fr))
    (hd : (match d with | .struct _ | .array _ _ => true | _ => false) = true) (hu : Try.prog.underlying ty = some d) (hi : (Try.prog.info? ty).map (·.size) = some cs.size) :
    (results fn tmps).run Try.prog w = .ok (.tuple #[.agg cs, x]) w := by
  have hp' : tmps[p]?.getD undef = .pointer (some ⟨g, 0, none⟩) := by simpa using hp
  have hq' : tmps[q]?.getD undef = x := by simpa using hq
  have hl := run_loadVar_row (P := Try.prog) w g t ty cs fr d hg hu (by cases d <;> first | rfl | exact hd) hi
  simp [results, h, hp', hq', asAddr, hl]

namespace Sp
/-- The form is read whole. -/
def goodB (b : List UInt8) : Bool := (taken b 0 0).mayB && (decide ((Form.rst b 0 0 25).2 = 0) && decide (b.length ≤ (Form.rst b 0 0 25).1))
def back (b : List UInt8) : Sp := if goodB b then taken b 0 0 else zero
end Sp
end Go.Proofs.Ytoflehlkacofjaa
