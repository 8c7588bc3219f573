/- Walks of the reader. -/
import Derived.Test.YtoflehlkacofjaaQaL1
import Derived.Test.YtoflehlkacofjaaQaW2
import Derived.BigQuiet
import Derived.Deep.QuietTactic
namespace Go.Proofs.Ytoflehlkacofjaa
open Go.ChangeShapes Go.WideShapes Go.ChangeAt Go.RowKit
set_option linter.unusedVariables false
/-- A reader lies at block g. -/
def Rdr (w : World) (g : Nat) (v : Value) (at_ : Nat) (e : Int) : Prop := w.heap[g]? = some (.cells #[v, .int .i64 (at_ : Int), .int .i64 e] 98)

theorem PtB.drop {w : World} {p : Option Addr} {c : Nat} {l : List UInt8} (h : PtB w p c l) (a : Nat) (ha : a ≤ l.length) : PtB w (if c = a then p else p.map (·.add (a * 1))) (c - a) (l.drop a) := by
  obtain ⟨h1, h2, h3, h4⟩ := h
  refine ⟨fun e => ?_, by rw [List.length_drop]; omega, by omega, fun hne => ?_⟩
  · split at e
    · omega
    · cases p with
      | none => have := h1 rfl; omega
      | some x => cases e
  · have hlt : a < l.length := by
      rcases Nat.lt_or_ge a l.length with hh | hh
      · exact hh
      · exact absurd (List.drop_eq_nil_of_le hh) hne
    obtain ⟨b, off, rfl, hc⟩ := h4 (by rintro rfl; simp at hlt)
    rw [if_neg (by omega)]
    refine ⟨b, off + a, by simp [Addr.add], fun i hi => ?_⟩
    rw [List.length_drop] at hi
    have := hc (a + i) (by omega)
    rw [← Nat.add_assoc] at this
    rw [this]
    simp [List.getD]

end Go.Proofs.Ytoflehlkacofjaa
