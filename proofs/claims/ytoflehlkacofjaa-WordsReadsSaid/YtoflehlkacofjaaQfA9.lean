/- Two lists of a reply, compared. -/
import Derived.Test.YtoflehlkacofjaaQfK4
namespace Go.Proofs.Ytoflehlkacofjaa
open Go.ChangeShapes Go.WideShapes Go.ChangeAt Go.RowKit
set_option linter.unusedVariables false
theorem take_eq_step {α : Type} {xs ys : List α} (q : Nat) (h1 : q < xs.length) (h2 : q < ys.length) (h : xs.take q = ys.take q) (he : xs[q] = ys[q]) : xs.take (q + 1) = ys.take (q + 1) := by
  rw [List.take_succ_eq_append_getElem h1, List.take_succ_eq_append_getElem h2, h, he]
/-- Two trades alike? -/
def Tr.sameB (x y : Tr) : Bool := (x.price == y.price) && ((x.qty == y.qty) && (((x.number : Int) == (y.number : Int)) && (((x.account : Int) == (y.account : Int)) && true)))
theorem Tr.same_iff (x y : Tr) : x.sameB y = true ↔ x = y := by
  obtain ⟨a, b, c, d⟩ := x
  obtain ⟨a', b', c', d'⟩ := y
  simp [Tr.sameB]
  intro _ _; omega
set_option maxRecDepth 100000 in
theorem neq62 (p q : Int) (n a : Nat) (p' q' : Int) (n' a' : Nat) (W : World) : (binOp .neq 62 (.agg #[.int .i64 p, .int .i64 q, .int .u64 (n : Int), .int .u32 (a : Int)]) (.agg #[.int .i64 p', .int .i64 q', .int .u64 (n' : Int), .int .u32 (a' : Int)])).run Try.prog W = .ok (.bool (!((Tr.mk p q n a).sameB (Tr.mk p' q' n' a')))) W := by
  rw [run_neq_struct]
  have h : (Op.equalIn (9999 + 1) 62 (.agg #[.int .i64 p, .int .i64 q, .int .u64 (n : Int), .int .u32 (a : Int)]) (.agg #[.int .i64 p', .int .i64 q', .int .u64 (n' : Int), .int .u32 (a' : Int)])).run Try.prog W = .ok ((Tr.mk p q n a).sameB (Tr.mk p' q' n' a')) W := by
    rw [run_equalIn_struct W 9999 62 _ _ (by kernel_rfl) (by kernel_rfl)]
    refine eqF_int (d := 9998) (by decide) Try.underlying2 rfl rfl ?_
    refine eqF_int (d := 9998) (by decide) Try.underlying2 rfl rfl ?_
    refine eqF_int (d := 9998) (by decide) Try.underlying24 rfl rfl ?_
    refine eqF_int (d := 9998) (by decide) Try.underlying23 rfl rfl ?_
    rfl
  rw [h]; rfl
theorem exec_load62 {o : Oper} {e : Operand → Value} {W : World} {b off : Nat} {p q : Int} {n a : Nat} (x : Operand) (ho : o.op = .load 62 x) (hx : e x = .pointer (some ⟨b, off, none⟩)) (h : W.rangeAt b off [.int .i64 p, .int .i64 q, .int .u64 (n : Int), .int .u32 (a : Int)]) :
    (execOp e o).run Try.prog W = .ok (.value (.agg #[.int .i64 p, .int .i64 q, .int .u64 (n : Int), .int .u32 (a : Int)])) W := by
  have hl := run_loadVar_mid (P := Try.prog) W b off 62 _ _ h Try.underlying62 rfl (show _ = some 4 by kernel_rfl)
  unfold execOp
  simp only [ho, hx, Instr.loadAt, Instr.sureAddr, Sem.run_bind, Sem.run_pure, Result.andThen_ok, hl]
theorem guard62 (op : BinOp) (x y : Operand) (xs ys : Array Value) (W : World) : (eqGuard op 62 x y (.agg xs) (.agg ys)).run Try.prog W = .ok () W :=
  run_eqGuard_agg W op 62 x y xs ys (by kernel_rfl)
theorem exec_neq62 {o : Oper} {e : Operand → Value} {W : World} {cx cy : Array Value} {b : Bool} (x y : Operand) (ho : o.op = .binOp .neq 62 x y 62) (hx : e x = .agg cx) (hy : e y = .agg cy) (h : (binOp .neq 62 (.agg cx) (.agg cy)).run Try.prog W = .ok (.bool b) W) :
    (execOp e o).run Try.prog W = .ok (.value (.bool b)) W := by
  unfold execOp
  simp only [ho, hx, hy]
  simp [guard62, h]
end Go.Proofs.Ytoflehlkacofjaa
