/- Operations inside a round: by what they come to. -/
import Derived.Test.YteellfgiejnigaaT6
namespace Go.Proofs.Yteellfgiejnigaa
open Go.ChangeShapes Go.WideShapes Go.ChangeAt Go.RowKit
set_option linter.unusedVariables false

section
variable {F : Fence} {n : Nat} {P : Program} {ops : Array Oper} {rest : List Oper} {o : Oper} {a : Act} {w : World} {Q : Exit → Act → World → Prop}
theorem wpListIn_exec (hF : ∀ f, F.fn f) (hgd : o.guard = none) (hnd : ∀ c, o.op ≠ .defer c) {v : Value} {W' : World} (h : (execOp a.eval o).run P w = .ok (.value v) W')
    (k : wpListIn F n P ops Q rest (a.put o.dst v) W') : wpListIn F n P ops Q (o :: rest) a w := by
  refine wpListIn_plain hgd fun K hK => ?_
  refine ⟨fun f _ => hF f, ?_⟩
  rw [Oper.semAt_eq _ _ _ hnd, h]
  exact hK _ _ k
theorem wpListIn_exec_skip (hF : ∀ f, F.fn f) (hgd : o.guard = none) (hnd : ∀ c, o.op ≠ .defer c) (hd : o.dst = none) {W' : World} (h : (execOp a.eval o).run P w = .ok .skip W')
    (k : wpListIn F n P ops Q rest a W') : wpListIn F n P ops Q (o :: rest) a w := by
  refine wpListIn_plain hgd fun K hK => ?_
  refine ⟨fun f _ => hF f, ?_⟩
  rw [Oper.semAt_eq _ _ _ hnd, h]
  have h2 : a.put o.dst undef = a := by rw [hd]; rfl
  show K (a.put o.dst undef) W'
  rw [h2]
  exact hK _ _ k
end
theorem exec_load53 {o : Oper} {e : Operand → Value} {W : World} {b off t : Nat} {d : Value} (x : Operand) (ho : o.op = .load 53 x) (hx : e x = .pointer (some ⟨b, off, none⟩)) (h : W.rangeAt b off [.int .u64 (t : Int), d]) :
    (execOp e o).run Try.prog W = .ok (.value (.agg #[.int .u64 (t : Int), d])) W := by
  have hl := run_loadVar_mid (P := Try.prog) W b off 53 [.int .u64 (t : Int), d] _ h Try.underlying53 rfl (show _ = some 2 by kernel_rfl)
  unfold execOp
  simp only [ho, hx, Instr.loadAt, Instr.sureAddr, Sem.run_bind, Sem.run_pure, Result.andThen_ok, hl]
theorem exec_alloc53 {o : Oper} {e : Operand → Value} {W : World} (ho : o.op = .alloc 53) :
    (execOp e o).run Try.prog W = .ok (.value (.pointer (some ⟨W.heap.size, 0, none⟩))) (W.alloc (.cells #[.int .u64 0, .slice none 0 0] 53)) := by
  have hz := hz53
  unfold execOp
  simp only [ho]
  cases hi : Try.prog.info? 53 with
  | none => simp [hi] at hz
  | some i =>
    cases hz' : i.zero with
    | none => simp [hi, hz'] at hz
    | some z =>
      simp [hi, hz'] at hz
      simp [Instr.alloc, zeroValue, typeInfo, hi, hz', newVar, newRow, Sem.run_bind, hz]
theorem exec_store53 {o : Oper} {e : Operand → Value} {W : World} {g t : Nat} {p : Option Addr} {m c : Nat} (x y : Operand) (ho : o.op = .store 53 x y) (hx : e x = .pointer (some ⟨g, 0, none⟩)) (hy : e y = .agg #[.int .u64 (t : Int), .slice p m c])
    (hg : W.heap[g]? = some (.cells #[.int .u64 0, .slice none 0 0] 53)) : (execOp e o).run Try.prog W = .ok .skip (W.setRow g #[.int .u64 (t : Int), .slice p m c]) := by
  have hs := run_storeVar_row (P := Try.prog) W g 53 53 _ #[.int .u64 (t : Int), .slice p m c] hg (show _ = some 2 by kernel_rfl) rfl (ent_one _ _ _ _)
  unfold execOp
  simp only [ho, hx, hy, Instr.storeAt, Instr.sureAddr, Sem.run_bind, Sem.run_pure, Result.andThen_ok, hs]
end Go.Proofs.Yteellfgiejnigaa
