/- A reply copied, by the document. -/
import Derived.Test.YtoflehlkacofjaaQfC6
import Derived.Test.YtoflehlkacofjaaQfC7
namespace Go.Proofs.Ytoflehlkacofjaa
open Go.ChangeShapes Go.WideShapes Go.ChangeAt Go.RowKit
set_option linter.unusedVariables false
section
variable {P : Program} {ops : Array Oper} {rest : List Oper} {o : Oper} {a : Act} {w : World} {Q : Exit → Act → World → Prop}
end
/-- A reply is being copied: it, the result. -/
structure CR (w W : World) (cs : Array Value) : Prop where
  x : RrAt W w.heap.size cs
  z : RrAt W (w.heap.size + 1) zR
  below : Below w.heap.size w W
section
variable {w W W' : World} {cs : Array Value}
theorem CR.sz (h : CR w W cs) : w.heap.size + 1 < W.heap.size := h.z.lt
theorem CR.keep (h : CR w W cs) (hB : Below W.heap.size W W') : CR w W' cs := ⟨h.x.keeps hB.block, h.z.keeps hB.block, h.below.trans (hB.mono h.below.size)⟩
theorem CR.set (h : CR w W cs) (i : Nat) (v : Value) : CR w (W.setCell ⟨w.heap.size, i, none⟩ v) (cs.setIfInBounds i v) := by
  have hg := Lib.grownBy_setCell W w.heap.size i v
  refine ⟨?_, ?_, h.below.grown hg h.below.size (fun k e => by cases e; exact Nat.le_refl _)⟩
  · have hb := h.x
    unfold RrAt at *
    simp only [World.setCell, Array.getElem?_modify, hb, if_true, Option.map_some]
    rfl
  · unfold RrAt
    rw [hg.block _ h.z.lt (by simp)]
    exact h.z
theorem CR.thaw (h : CR w W cs) (i : Nat) : W.frozen? ⟨w.heap.size, i, none⟩ = false := by
  have hb := h.x
  unfold RrAt at hb
  simp [World.frozen?, hb]
theorem CR.start (w : World) (cs : Array Value) : CR w ((w.alloc (.cells cs 36)).alloc (.cells zR 36)) cs := by
  obtain ⟨h1, h2, h3⟩ := two_at w cs zR
  exact ⟨h1, h2, h3⟩
end
end Go.Proofs.Ytoflehlkacofjaa
