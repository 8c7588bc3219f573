/- Commands, and replies, that may be have one form just if they are alike (no program in sight). -/
import Derived.Test.YtoflehlkacofjaaQcA13
namespace Go.Proofs.Ytoflehlkacofjaa
open Go.ChangeShapes Go.WideShapes Go.ChangeAt Go.RowKit
set_option linter.unusedVariables false
theorem Sp.sameB_iff (s t : Sp) : s.sameB t = true ↔ s.cells = t.cells := by
  unfold Sp.sameB Sp.cells
  simp only [Array.mk.injEq, List.cons.injEq, Value.int.injEq, true_and, and_true, Bool.and_eq_true, beq_iff_eq, List.all_eq_true, List.mem_range, Bool.and_true]
  constructor
  · rintro ⟨s1, s2, s3, s4, s5, s6, hs, s7, s8, s9⟩
    exact ⟨s1, s2, s3, s4, s5, s6, hs 0 (by decide), hs 1 (by decide), hs 2 (by decide), hs 3 (by decide), hs 4 (by decide), hs 5 (by decide), hs 6 (by decide), hs 7 (by decide), hs 8 (by decide), hs 9 (by decide), hs 10 (by decide), hs 11 (by decide), hs 12 (by decide), hs 13 (by decide), hs 14 (by decide), hs 15 (by decide), s7, s8, s9⟩
  · rintro ⟨s1, s2, s3, s4, s5, s6, c0, c1, c2, c3, c4, c5, c6, c7, c8, c9, c10, c11, c12, c13, c14, c15, s7, s8, s9⟩
    refine ⟨s1, s2, s3, s4, s5, s6, fun k hk => ?_, s7, s8, s9⟩
    have h : k = 0 ∨ k = 1 ∨ k = 2 ∨ k = 3 ∨ k = 4 ∨ k = 5 ∨ k = 6 ∨ k = 7 ∨ k = 8 ∨ k = 9 ∨ k = 10 ∨ k = 11 ∨ k = 12 ∨ k = 13 ∨ k = 14 ∨ k = 15 := by omega
    rcases h with rfl | rfl | rfl | rfl | rfl | rfl | rfl | rfl | rfl | rfl | rfl | rfl | rfl | rfl | rfl | rfl <;> assumption
theorem Sp.alike_of {s t : Sp} (h : s.cells = t.cells) : Sp.Alike s t := by
  have h' := (Sp.sameB_iff s t).2 h
  unfold Sp.sameB at h'
  simp only [Bool.and_eq_true, beq_iff_eq, List.all_eq_true, List.mem_range, Bool.and_true] at h'
  obtain ⟨s1, s2, s3, s4, s5, s6, hs, s7, s8, s9⟩ := h'
  exact ⟨s1, s2, s3, s4, s5, s6, hs, s7, s8, s9⟩
/-- Cells field by field. -/
theorem Cm.cells_of {x y : Cm} (h0 : x.kind = y.kind) (h1 : x.account = y.account) (h2 : x.contract = y.contract) (h3 : x.number = y.number) (h4 : x.amount = y.amount) (h5 : x.spec.cells = y.spec.cells) (h6 : x.on = y.on) (h7 : x.buy = y.buy) (h8 : x.as_ = y.as_) (h9 : x.price = y.price) (h10 : x.qty = y.qty) : x.cells = y.cells := by
  refine (Cm.same_iff x y).1 ?_
  unfold Cm.same
  rw [h0, h1, h2, h3, h4, h6, h7, h8, h9, h10, (Sp.sameB_iff _ _).2 h5]
  simp
theorem Cm.fields_of {x y : Cm} (h : x.cells = y.cells) : x.kind = y.kind ∧ x.account = y.account ∧ x.contract = y.contract ∧ x.number = y.number ∧ x.amount = y.amount ∧ x.spec.cells = y.spec.cells ∧ x.on = y.on ∧ x.buy = y.buy ∧ x.as_ = y.as_ ∧ x.price = y.price ∧ x.qty = y.qty := by
  have h' := (Cm.same_iff x y).2 h
  unfold Cm.same at h'
  simp only [Bool.and_eq_true, beq_iff_eq, Bool.and_true, Sp.sameB_iff] at h'
  obtain ⟨g0, g1, g2, g3, g4, g5, g6, g7, g8, g9, g10⟩ := h'
  exact ⟨by omega, by omega, by omega, by omega, g4, g5, g6, g7, by omega, g9, g10⟩
end Go.Proofs.Ytoflehlkacofjaa
