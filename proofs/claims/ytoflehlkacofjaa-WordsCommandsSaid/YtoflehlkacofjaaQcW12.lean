/- Walks of the document's reader: the number. -/
import Derived.Test.YtoflehlkacofjaaQcW10
namespace Go.Proofs.Ytoflehlkacofjaa
open Go.ChangeShapes Go.WideShapes Go.ChangeAt Go.RowKit
set_option linter.unusedVariables false
/-- The document's reader lies at block g. -/
def RRd (w : World) (g : Nat) (T : TypeId) (v : Value) (e : Int) : Prop := w.heap[g]? = some (.cells #[v, .int .i64 e] T)
theorem RRd.lt {w : World} {g : Nat} {T : TypeId} {v : Value} {e : Int} (h : RRd w g T v e) : g < w.heap.size := (Array.getElem?_eq_some_iff.1 h).1
theorem RRd.cell0 {w : World} {g : Nat} {T : TypeId} {v : Value} {e : Int} (h : RRd w g T v e) : w.cell? ⟨g, 0, none⟩ = some v := by rw [cell_of_row _ _ _ _ _ _ h]; rfl
theorem RRd.cell1 {w : World} {g : Nat} {T : TypeId} {v : Value} {e : Int} (h : RRd w g T v e) : w.cell? ⟨g, 1, none⟩ = some (.int .i64 e) := by rw [cell_of_row _ _ _ _ _ _ h]; rfl
theorem RRd.frozen {w : World} {g : Nat} {T : TypeId} {v : Value} {e : Int} (h : RRd w g T v e) (i : Nat) : w.frozen? ⟨g, i, none⟩ = false := by
  unfold RRd at h
  simp [World.frozen?, h]
theorem RRd.set1 {w : World} {g : Nat} {T : TypeId} {v : Value} {e : Int} (h : RRd w g T v e) (e' : Int) : RRd (w.setCell ⟨g, 1, none⟩ (.int .i64 e')) g T v e' := by
  unfold RRd at *
  simp only [World.setCell, Array.getElem?_modify, h]; rfl

end Go.Proofs.Ytoflehlkacofjaa
