/- Two replies alike; which are looked at; what is known. -/
import Derived.Test.YtoflehlkacofjaaQfA11
namespace Go.Proofs.Ytoflehlkacofjaa
open Go.ChangeShapes Go.WideShapes Go.ChangeAt Go.RowKit
set_option linter.unusedVariables false
theorem two_at (w : World) (A B : Array Value) : RrAt ((w.alloc (.cells A 36)).alloc (.cells B 36)) w.heap.size A ∧ RrAt ((w.alloc (.cells A 36)).alloc (.cells B 36)) (w.heap.size + 1) B ∧ Below w.heap.size w ((w.alloc (.cells A 36)).alloc (.cells B 36)) := by
  refine ⟨(RrAt.new w A).keeps ((Keeps.refl _).alloc _), ?_, ((Below.refl w.heap.size w).alloc (Nat.le_refl _) _).alloc (by simp) _⟩
  have h := RrAt.new (w.alloc (.cells A 36)) B
  rwa [heap_alloc_size] at h
theorem Rp.ext_iff' {x y : Rp} : x = y ↔ x.errno = y.errno ∧ x.number = y.number ∧ x.filled = y.filled ∧ x.left = y.left ∧ x.trades = y.trades ∧ x.gone = y.gone ∧ x.accounts = y.accounts := by
  obtain ⟨a, b, c, d, e, f, g⟩ := x
  obtain ⟨a', b', c', d', e', f', g'⟩ := y
  simp
end Go.Proofs.Ytoflehlkacofjaa
