/- The law WordsReads: joined. -/
import Derived.Test.YtoflehlkacofjaaQfC18
namespace Go.Proofs.Ytoflehlkacofjaa
open Go.ChangeShapes Go.WideShapes Go.ChangeAt Go.RowKit
set_option linter.unusedVariables false
theorem ans_yes {W : World} {f : FuncId} {v : Value} {b : List UInt8} {x : Rp} (hx : RpOf b x) (h : Calls Try.prog f #[v] W (RpAns W b)) : Calls Try.prog f #[v] W fun r w' => (∃ cy, r = .returned (.tuple #[.agg cy, .int .i64 0]) ∧ InP x w' cy) ∧ Below W.heap.size W w' := by
  obtain ⟨x1, x2, x3⟩ := hx
  refine h.mono fun e w' ⟨hY, hB⟩ => ?_
  rcases hY with ⟨⟨y', a, b', c', he, hr, h3, h4, h5⟩⟩ | ⟨he, hno⟩
  · have : y' = x := Rp.form_inj h4 x2 (by rw [h5, x3])
    subst this
    exact ⟨⟨_, he, a, b', c', rfl, hr⟩, hB⟩
  · exact absurd ⟨x1, x2, x3⟩ (hno x)
theorem ans_no {W : World} {f : FuncId} {v : Value} {b : List UInt8} (hx : RpNone b) (h : Calls Try.prog f #[v] W (RpAns W b)) : Calls Try.prog f #[v] W fun r w' => (∃ cy, r = .returned (.tuple #[.agg cy, .int .i64 5]) ∧ InP Rp.zero w' cy) ∧ Below W.heap.size W w' := by
  refine h.mono fun e w' ⟨hY, hB⟩ => ?_
  rcases hY with ⟨⟨y', a, b', c', he, hr, h3⟩⟩ | ⟨he, hno⟩
  · exact absurd h3 (hx y')
  · exact ⟨⟨_, he, _, _, _, rfl, ⟨rdc_nil _ _, rdc_nil _ _, rdc_nil _ _, Rp.zero_ok⟩⟩, hB⟩
theorem reads_w (v : Value) (b : List UInt8) (w : World) (hv : RdB w v b) : Calls Try.prog 6 #[v] w fun e w' => e = .returned (.bool true) ∧ Below w.heap.size w w' := by
  obtain ⟨p, c, rfl⟩ := hv.form_
  by_cases hl : b.length ≤ 20000
  · have hl' : b.length ≤ 1000000 := by omega
    have heq : ∀ W, (binOp .eql 30 (.agg (if Cm.rdOk b then (Cm.rd b).1.cells else zC)) (.agg (if Cm.rdOk b then (Cm.rd b).1.cells else zC))).run Try.prog W = .ok (.bool true) W := fun W => by
      split
      · rw [eql30, Cm.same_self]
      · have := eql30 (Cm.start 0) (Cm.start 0) W
        rw [Cm.same_self] at this
        exact this
    have hsz : (if Cm.rdOk b then (Cm.rd b).1.cells else zC).size = 35 := by split <;> rfl
    have hone : (if Cm.rdOk b then (Cm.rd b).1.cells else zC).all (·.oneCell') = true := by
      split
      · exact Cm.cells_one _
      · exact zC_one
    by_cases hx : ∃ x, RpOf b x
    · obtain ⟨x, hx⟩ := hx
      exact reads_in_w w p c b _ _ x 0 hv hl ⟨fun W v h => read21_w v b W h hl', fun W v h => refread23_w v b W h hl', fun W v h => ans_yes hx (read17_w v b W h hl'), fun W v h => ans_yes hx (refread24_w v b W h hl'), heq, hsz, hone⟩
    · have hx' : RpNone b := fun x h => hx ⟨x, h⟩
      exact reads_in_w w p c b _ _ Rp.zero 5 hv hl ⟨fun W v h => read21_w v b W h hl', fun W v h => refread23_w v b W h hl', fun W v h => ans_no hx' (read17_w v b W h hl'), fun W v h => ans_no hx' (refread24_w v b W h hl'), heq, hsz, hone⟩
  · exact reads_long_w w p c b.length (by omega)
end Go.Proofs.Ytoflehlkacofjaa
