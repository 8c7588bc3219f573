/- The document's form of a command: the walk. -/
import Derived.Test.YtoflehlkacofjaaQeA14
namespace Go.Proofs.Ytoflehlkacofjaa
open Go.ChangeShapes Go.WideShapes Go.ChangeAt Go.RowKit
set_option linter.unusedVariables false
/-- The command lies at the first new block, the bytes so far in a row beyond it. -/
structure KI (w W : World) (cx : Array Value) (p : Option Addr) (k c : Nat) (l : List UInt8) : Prop where
  at_ : CcAt W w.heap.size cx
  bel : Below w.heap.size w W
  len : k = l.length
  own : OB W (w.heap.size + 1) 5 (.slice p k c) l
  size : w.heap.size + 1 ≤ W.heap.size
theorem KI.next {w W W1 : World} {cx : Array Value} {p : Option Addr} {k c : Nat} {l : List UInt8} (h : KI w W cx p k c l) (hB : Below W.heap.size W W1) : KI w W1 cx p k c l :=
  ⟨h.at_.keeps hB.block, h.bel.trans (hB.mono h.bel.size), h.len, h.own.below hB, Nat.le_trans h.size hB.size⟩
theorem KI.put {w W W1 : World} {cx : Array Value} {p p1 : Option Addr} {k c k1 c1 : Nat} {l l1 : List UInt8} (h : KI w W cx p k c l) (hn : k1 = l1.length) (ho : OB W1 (w.heap.size + 1) 5 (.slice p1 k1 c1) l1) (hg : W.grownBy W1 (Value.slice p k c).ownBlock) : KI w W1 cx p1 k1 c1 l1 := by
  have hl : ∀ g, (Value.slice p k c).ownBlock = some g → w.heap.size + 1 ≤ g := fun g e => by
    have h2 := h.own; have h3 := h.len; subst h3; exact (h2.lt g e).1
  refine ⟨?_, h.bel.grown hg h.bel.size (fun g e => Nat.le_of_succ_le (hl g e)), hn, ho, Nat.le_trans h.size hg.size⟩
  have hb := h.at_
  unfold CcAt at *
  rw [hg.block w.heap.size (by have := h.size; omega) (fun e => by have := hl _ e.symm; omega)]
  exact hb
namespace Cm
end Cm
end Go.Proofs.Ytoflehlkacofjaa
