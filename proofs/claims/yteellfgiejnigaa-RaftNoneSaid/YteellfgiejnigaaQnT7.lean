/- The walk of Meet. -/
import Derived.Test.YteellfgiejnigaaQnL1
import Derived.Test.YteellfgiejnigaaQnL2
import Derived.Deep.Cut
import Derived.Lib.BufferOwn
import Derived.WalkMore
namespace Go.Proofs.Yteellfgiejnigaa
open Go.ChangeShapes Go.WideShapes Go.ChangeAt Go.RowKit
set_option linter.unusedVariables false
attribute [local go_sem] Oper.semAt_some
/-- Does entry k of those that are met not agree? -/
def misses (B T : Nat) (es : List Ent) (prev : Nat) (ss : List Ent) (k : Nat) : Bool :=
  decide (B < prev + k + 1) && (!(termAt B T es (prev + k + 1)).2 || decide ((termAt B T es (prev + k + 1)).1 ≠ (ss.getD k (0, [])).1))
/-- What Meet says: what to keep, what to add, and whether. -/
def meetR (B T : Nat) (es : List Ent) (prev term : Nat) (ss : List Ent) : Nat × List Ent × Int :=
  if prev < B ∧ ss.length < B - prev then (0, [], 240)
  else if B + es.length < prev ∨ ((termAt B T es prev).2 = true ∧ (termAt B T es prev).1 ≠ term) then (0, [], 241)
  else match (List.range (placedN prev ss.length)).find? (misses B T es prev ss) with
    | none => (B + es.length, [], 0)
    | some k => (prev + k, ss.drop k, 0)

/-- Meet's own four blocks. -/
structure MtAt (W : World) (N g : Nat) (sv : Value) (keep : Nat) (av : Value) : Prop where
  t : W.heap[N]? = some (.cells #[.pointer (some ⟨g, 0, none⟩)] 41)
  l : W.heap[N + 1]? = some (.cells #[sv] 28)
  k : W.heap[N + 1 + 1]? = some (.cells #[.int .u64 (keep : Int)] 22)
  a : W.heap[N + 1 + 1 + 1]? = some (.cells #[av] 28)
theorem MtAt.same {W W' : World} {N g : Nat} {sv : Value} {keep : Nat} {av : Value} (h : MtAt W N g sv keep av) (hs : SameOn (fun b => N ≤ b ∧ b < N + 4) W W') : MtAt W' N g sv keep av :=
  ⟨(hs N (by omega)).trans h.t, (hs (N + 1) (by omega)).trans h.l, (hs (N + 1 + 1) (by omega)).trans h.k, (hs (N + 1 + 1 + 1) (by omega)).trans h.a⟩
theorem one_cell {W : World} {b : Nat} {v : Value} {t : TypeId} (h : W.heap[b]? = some (.cells #[v] t)) : W.cell? ⟨b, 0, none⟩ = some v := by rw [cell_of_row _ _ _ _ _ _ h]; rfl
theorem one_frozen {W : World} {b : Nat} {v : Value} {t : TypeId} (h : W.heap[b]? = some (.cells #[v] t)) : W.frozen? ⟨b, 0, none⟩ = false := by simp [World.frozen?, h]
theorem MtAt.drew {W : World} {N g : Nat} {sv : Value} {keep : Nat} {av : Value} (h : MtAt W N g sv keep av) (j : Nat) : MtAt (W.drewN j) N g sv keep av := ⟨h.t, h.l, h.k, h.a⟩
theorem MtAt.below {W W' : World} {N g : Nat} {sv : Value} {keep : Nat} {av : Value} (h : MtAt W N g sv keep av) (hB : Below W.heap.size W W') : MtAt W' N g sv keep av :=
  ⟨(hB.block _ (Array.getElem?_eq_some_iff.1 h.t).1).trans h.t, (hB.block _ (Array.getElem?_eq_some_iff.1 h.l).1).trans h.l, (hB.block _ (Array.getElem?_eq_some_iff.1 h.k).1).trans h.k, (hB.block _ (Array.getElem?_eq_some_iff.1 h.a).1).trans h.a⟩
theorem MtAt.new (w : World) (g : Nat) (sv : Value) : ∃ W0, Hid ((((w.alloc (.cells #[.pointer (some ⟨g, 0, none⟩)] 41)).alloc (.cells #[sv] 28)).alloc (.cells #[.int .u64 0] 22)).alloc (.cells #[.slice none 0 0] 28) = W0) ∧
    MtAt W0 w.heap.size g sv 0 (.slice none 0 0) ∧ Below w.heap.size w W0 ∧ W0.heap.size = w.heap.size + 4 := by
  refine ⟨_, Lib.hid rfl, ⟨?_, ?_, ?_, ?_⟩, ?_, by simp⟩
  · rw [heap_alloc_get, if_neg (by simp only [heap_alloc_size]; omega), heap_alloc_get, if_neg (by simp only [heap_alloc_size]; omega), heap_alloc_get, if_neg (by simp only [heap_alloc_size]; omega), heap_alloc_get, if_pos rfl]
  · rw [heap_alloc_get, if_neg (by simp only [heap_alloc_size]; omega), heap_alloc_get, if_neg (by simp only [heap_alloc_size]; omega), heap_alloc_get, if_pos (by simp only [heap_alloc_size])]
  · rw [heap_alloc_get, if_neg (by simp only [heap_alloc_size]; omega), heap_alloc_get, if_pos (by simp only [heap_alloc_size])]; rfl
  · rw [heap_alloc_get, if_pos (by simp only [heap_alloc_size])]
  · exact ((((Below.refl w.heap.size w).alloc (Nat.le_refl _) _).alloc (by simp) _).alloc (by simp; omega) _).alloc (by simp; omega) _

end Go.Proofs.Yteellfgiejnigaa
