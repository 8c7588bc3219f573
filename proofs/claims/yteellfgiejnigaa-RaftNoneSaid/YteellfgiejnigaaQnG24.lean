/- A configuration, read out of an argument. -/
import Derived.Test.YteellfgiejnigaaQnG23
namespace Go.Proofs.Yteellfgiejnigaa
open Go.ChangeShapes Go.WideShapes Go.ChangeAt Go.RowKit
set_option linter.unusedVariables false
section
variable {H : Type} {enc : TypeId × Value → H} {w : World} {base : Nat}
set_option maxRecDepth 100000 in
theorem conf_of_trod {v : Value} {d : DataW H} {p : List MemPlace} {base' : Nat}
    (hk : Value.okWide Try.prog w .any base' 85 v) (h : DataW.Trod enc Try.prog w base (fun _ => true) true 85 v d p) :
    ∃ x : Int × Int × Int, v = .agg #[.int .i64 x.1, .int .i64 x.2.1, .int .i64 x.2.2] ∧ (Lit.int .i64 x.1).wf = true ∧ (Lit.int .i64 x.2.1).wf = true ∧ (Lit.int .i64 x.2.2).wf = true := by
  obtain ⟨cs, rfl, hsz⟩ := okWide_struct Try.underlying85 hk
  rw [show Try.prog.cellsOf 85 = 3 by kernel_rfl] at hsz
  obtain ⟨fuel, hf⟩ := h
  obtain ⟨ys, m, _, hyx, hlen, hyl, hff⟩ := DataW.trod_struct Try.underlying85 hf
  obtain ⟨l⟩ := cs
  have hl : l.length = 3 := hsz
  have hcs : (Value.agg ⟨l⟩).cells.toList = l := rfl
  rw [hcs] at hff
  have hy : ∀ j, j < 3 → ∃ y, ys[j]? = some y := fun j hj => ⟨ys[j]'(by rw [hyl]; exact hj), List.getElem?_eq_getElem _⟩
  have c3 : Try.prog.cellsOf 3 = 1 := by kernel_rfl
  obtain ⟨y0, e0⟩ := hy 0 (by decide)
  obtain ⟨y1, e1⟩ := hy 1 (by decide)
  obtain ⟨y2, e2⟩ := hy 2 (by decide)
  obtain ⟨n0, q0, w0⟩ := int_of_trod (off := 0) Try.underlying3 c3 ((hff 0 _ rfl).trans e0)
  obtain ⟨n1, q1, w1⟩ := int_of_trod (off := 1) Try.underlying3 c3 ((hff 1 _ rfl).trans e1)
  obtain ⟨n2, q2, w2⟩ := int_of_trod (off := 2) Try.underlying3 c3 ((hff 2 _ rfl).trans e2)
  refine ⟨(n0, n1, n2), ?_, w0, w1, w2⟩
  congr 1
  apply Array.ext'
  show l = [_, _, _]
  apply List.ext_getElem?
  intro i
  by_cases hi : i < 3
  · have h : i = 0 ∨ i = 1 ∨ i = 2 := by omega
    rcases h with rfl | rfl | rfl
    · exact q0
    · exact q1
    · exact q2
  · rw [List.getElem?_eq_none (by omega), List.getElem?_eq_none (by simp; omega)]
end
end Go.Proofs.Yteellfgiejnigaa
