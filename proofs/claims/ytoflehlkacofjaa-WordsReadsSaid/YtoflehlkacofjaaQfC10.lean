/- The walk of the law WordsReplies. -/
import Derived.Test.YtoflehlkacofjaaQfC8
namespace Go.Proofs.Ytoflehlkacofjaa
open Go.ChangeShapes Go.WideShapes Go.ChangeAt Go.RowKit
set_option linter.unusedVariables false
/-- These cells are that reply's, which lies in memory. -/
def InP (x : Rp) (W : World) (ci : Array Value) : Prop := ∃ tv gv av, ci = rpc x tv gv av ∧ RpA W tv gv av x
theorem InP.keeps {x : Rp} {W W' : World} {ci : Array Value} (h : InP x W ci) (hk : Keeps W W') : InP x W' ci := by
  obtain ⟨a, b, c, e, h⟩ := h
  exact ⟨a, b, c, e, h.keeps hk⟩
theorem InP.size {x : Rp} {W : World} {ci : Array Value} (h : InP x W ci) : ci.size = 7 := by
  obtain ⟨a, b, c, rfl, h⟩ := h
  rfl
theorem InP.one {x : Rp} {W : World} {ci : Array Value} (h : InP x W ci) : ci.all (·.oneCell') = true := by
  obtain ⟨a, b, c, rfl, h⟩ := h
  obtain ⟨⟨p1, c1, e1⟩, ⟨p2, c2, e2⟩, ⟨p3, c3, e3⟩⟩ := h.forms
  rw [e1, e2, e3]
  simp [rpc, Value.oneCell']
/-- Two replies in their variables. -/
structure Tw (w W : World) (cr cs : Array Value) : Prop where
  r : RrAt W w.heap.size cr
  s : RrAt W (w.heap.size + 1) cs
  below : Below w.heap.size w W
theorem Tw.keep {w W W' : World} {cr cs : Array Value} (h : Tw w W cr cs) (hB : Below W.heap.size W W') : Tw w W' cr cs := ⟨h.r.keeps hB.block, h.s.keeps hB.block, h.below.trans (hB.mono h.below.size)⟩
theorem Tw.keeps {w W : World} {cr cs : Array Value} (h : Tw w W cr cs) : Keeps w W := h.below.block
/-- .. and the copy. -/
structure Th (w W : World) (x : Rp) (cr cs ci : Array Value) (I : Nat) : Prop where
  t : Tw w W cr cs
  i : RrAt W I ci
  p : InP x W ci
theorem Th.keep {w W W' : World} {x : Rp} {cr cs ci : Array Value} {I : Nat} (h : Th w W x cr cs ci I) (hB : Below W.heap.size W W') : Th w W' x cr cs ci I := ⟨h.t.keep hB, h.i.keeps hB.block, h.p.keeps hB.block⟩
theorem Th.new {w W : World} {x : Rp} {cr cs ci : Array Value} (h : Tw w W cr cs) (hp : InP x W ci) : Th w (W.alloc (.cells ci 36)) x cr cs ci W.heap.size :=
  have hB : Below W.heap.size W (W.alloc (.cells ci 36)) := (Below.refl _ _).alloc (Nat.le_refl _) _
  ⟨h.keep hB, RrAt.new W ci, hp.keeps hB.block⟩
end Go.Proofs.Ytoflehlkacofjaa
