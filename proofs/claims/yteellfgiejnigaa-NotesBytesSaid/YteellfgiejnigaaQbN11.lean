/- The walk of the law NotesSame. -/
import Derived.Test.YteellfgiejnigaaQbU3
namespace Go.Proofs.Yteellfgiejnigaa
open Go.ChangeShapes Go.WideShapes Go.ChangeAt Go.RowKit
set_option linter.unusedVariables false
/-- A note's cells lie in a block. -/
def NcAt (w : World) (B : Nat) (cs : Array Value) : Prop := w.heap[B]? = some (.cells cs 31)
theorem NcAt.new (w : World) (cs : Array Value) : NcAt (w.alloc (.cells cs 31)) w.heap.size cs := heap_alloc_new w _
theorem NcAt.lt {w : World} {B : Nat} {cs : Array Value} (h : NcAt w B cs) : B < w.heap.size := (Array.getElem?_eq_some_iff.1 h).1
theorem NcAt.keeps {w w' : World} {B : Nat} {cs : Array Value} (h : NcAt w B cs) (hk : Keeps w w') : NcAt w' B cs := by unfold NcAt; rw [hk B h.lt]; exact h
theorem load_nc {o : Oper} {e : Operand → Value} {W : World} {N : Nat} {cs : Array Value} (x : Operand) (ho : o.op = .load 31 x) (hx : e x = .pointer (some ⟨N, 0, none⟩)) (h : NcAt W N cs) (hs : cs.size = 9) :
    (execOp e o).run Try.prog W = .ok (.value (.agg cs)) W := by
  have hl := run_loadVar_row (P := Try.prog) W N 31 31 cs (0, 0) _ h Try.underlying31 rfl (show _ = some cs.size by rw [hs]; kernel_rfl)
  unfold execOp
  simp only [ho, hx, Instr.loadAt, Instr.sureAddr, Sem.run_bind, Sem.run_pure, Result.andThen_ok, hl]
theorem wpList_load_nc {ops : Array Oper} {rest : List Oper} {o : Oper} {a : Act} {w : World} {Q : Exit → Act → World → Prop} {B : Nat} {cs : Array Value} (hw : Region.wanted o (yielded ops a.tmps) = true) (x : Operand) (ho : o.op = .load 31 x)
    (hx : a.eval x = .pointer (some ⟨B, 0, none⟩)) (h : NcAt w B cs) (hs : cs.size = 9) (k : wpList Try.prog ops Q rest (a.put o.dst (.agg cs)) w) : wpList Try.prog ops Q (o :: rest) a w := by
  unfold wpList
  rw [if_pos hw]
  exact .inl (wp_load_row 31 x ho B hx 31 cs (0, 0) _ h Try.underlying31 rfl (show _ = some cs.size by rw [hs]; kernel_rfl) k)

end Go.Proofs.Yteellfgiejnigaa
