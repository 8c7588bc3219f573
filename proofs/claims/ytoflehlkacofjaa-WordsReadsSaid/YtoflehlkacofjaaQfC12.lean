/- The walk of the law WordsOnly. -/
import Derived.Test.YtoflehlkacofjaaQfC11
namespace Go.Proofs.Ytoflehlkacofjaa
open Go.ChangeShapes Go.WideShapes Go.ChangeAt Go.RowKit
set_option linter.unusedVariables false
/-- Bytes stay readable. -/
structure On (w W : World) (v : Value) (b : List UInt8) : Prop where
  v : RdB W v b
  below : Below w.heap.size w W
theorem On.keep {w W W' : World} {v : Value} {b : List UInt8} (h : On w W v b) (hB : Below W.heap.size W W') : On w W' v b := ⟨h.v.keeps hB.block, h.below.trans (hB.mono h.below.size)⟩
theorem On.alloc {w W : World} {v : Value} {b : List UInt8} (h : On w W v b) (o : Obj) : On w (W.alloc o) v b := h.keep ((Below.refl _ _).alloc (Nat.le_refl _) o)
theorem RdB.form_ {W : World} {v : Value} {b : List UInt8} (h : RdB W v b) : ∃ p c, v = .slice p b.length c := by obtain ⟨p, c, e, _⟩ := h; exact ⟨p, c, e⟩
theorem below_new {W w2 : World} {l : List UInt8} {v : Value} {W0 : World} (ho : OB W W0.heap.size 5 v l) (hg : W.grownBy w2 v.ownBlock) (hs : W0.heap.size ≤ W.heap.size) : Below W0.heap.size W w2 := below_own ho hg hs
end Go.Proofs.Ytoflehlkacofjaa
