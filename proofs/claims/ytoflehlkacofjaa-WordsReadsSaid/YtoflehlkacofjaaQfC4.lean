/- The document's form of a reply: the walk. -/
import Derived.Test.YtoflehlkacofjaaQfC3
import Derived.Deep.MidRow
namespace Go.Proofs.Ytoflehlkacofjaa
open Go.ChangeShapes Go.WideShapes Go.ChangeAt Go.RowKit
set_option linter.unusedVariables false
/-- The reply lies at the first new block, the bytes so far in a row beyond it. -/
structure QI (w W : World) (cx : Array Value) (p : Option Addr) (k c : Nat) (l : List UInt8) : Prop where
  at_ : RrAt W w.heap.size cx
  bel : Below w.heap.size w W
  len : k = l.length
  own : OB W (w.heap.size + 1) 5 (.slice p k c) l
  size : w.heap.size + 1 ≤ W.heap.size
theorem QI.next {w W W1 : World} {cx : Array Value} {p : Option Addr} {k c : Nat} {l : List UInt8} (h : QI w W cx p k c l) (hB : Below W.heap.size W W1) : QI w W1 cx p k c l :=
  ⟨h.at_.keeps hB.block, h.bel.trans (hB.mono h.bel.size), h.len, h.own.below hB, Nat.le_trans h.size hB.size⟩
theorem QI.put {w W W1 : World} {cx : Array Value} {p p1 : Option Addr} {k c k1 c1 : Nat} {l l1 : List UInt8} (h : QI w W cx p k c l) (hn : k1 = l1.length) (ho : OB W1 (w.heap.size + 1) 5 (.slice p1 k1 c1) l1) (hg : W.grownBy W1 (Value.slice p k c).ownBlock) : QI w W1 cx p1 k1 c1 l1 := by
  have hl : ∀ g, (Value.slice p k c).ownBlock = some g → w.heap.size + 1 ≤ g := fun g e => by
    have h2 := h.own; have h3 := h.len; subst h3; exact (h2.lt g e).1
  refine ⟨?_, h.bel.grown hg h.bel.size (fun g e => Nat.le_of_succ_le (hl g e)), hn, ho, Nat.le_trans h.size hg.size⟩
  have hb := h.at_
  unfold RrAt at *
  rw [hg.block w.heap.size (by have := h.size; omega) (fun e => by have := hl _ e.symm; omega)]
  exact hb
theorem QI.alloc {w W : World} {cx : Array Value} {p : Option Addr} {k c : Nat} {l : List UInt8} (h : QI w W cx p k c l) (o : Obj) : QI w (W.alloc o) cx p k c l := h.next ((Below.refl _ W).alloc (Nat.le_refl _) o)
theorem QI.end_ {w W : World} {cx : Array Value} {p : Option Addr} {k c : Nat} {l : List UInt8} (h : QI w W cx p k c l) : PutP w.heap.size w l (.returned (.slice p k c)) W := ⟨p, k, c, rfl, h.len, ownsRow_mono_base h.own (Nat.le_succ _), h.bel⟩
/-- Another block of its own is kept by what appends. -/
theorem QI.other {w W W1 : World} {cx : Array Value} {p : Option Addr} {k c g : Nat} {l : List UInt8} {cs : Array Value} (h : QI w W cx p k c l) (hz : ZAt W g cs) (hg : W.grownBy W1 (Value.slice p k c).ownBlock) : ZAt W1 g cs := by
  unfold ZAt at *
  rw [hg.block g (Array.getElem?_eq_some_iff.1 hz).1 (fun e => by
    have ho := h.own
    rcases ho.2 with ⟨e2, _⟩ | ⟨g', cap, cur, hv, hgb, hh, _⟩
    · rw [e2] at e; cases e
    · rw [hv] at e
      have e3 : g = g' := by simpa [Value.ownBlock] using e
      subst e3
      rw [hz] at hh
      cases hh)]
  exact hz
end Go.Proofs.Ytoflehlkacofjaa
