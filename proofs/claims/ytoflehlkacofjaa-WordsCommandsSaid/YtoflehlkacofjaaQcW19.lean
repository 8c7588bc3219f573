/- Walk of the law WireReads. -/
import Derived.Test.YtoflehlkacofjaaQcW18
import Derived.Deep.RegionWith
namespace Go.Proofs.Ytoflehlkacofjaa
open Go.ChangeShapes Go.WideShapes Go.ChangeAt Go.RowKit
set_option linter.unusedVariables false
theorem Marked.kept {base : Nat} {l : List UInt8} {v : Value} {x y : World} {k : Nat} (h : Marked base l v x) (hg : x.grownBy y (some k)) (ho : ∀ a n c, v = .slice (some a) n c → a.block ≠ k) : Marked base l v y := by
  obtain ⟨g, c, e, h1, h2⟩ := h
  refine ⟨g, c, e, h1, ?_⟩
  rcases h2 with ⟨h2, _⟩ | ⟨g', cap, cur, hv, hg', hh, r⟩
  · cases h2
  · have hgg : g = g' := by simp at hv; exact hv.1
    subst hgg
    have := ho _ _ _ e
    refine .inr ⟨g, cap, cur, hv, hg', ?_, r⟩
    rw [hg.block g (Array.getElem?_eq_some_iff.1 hh).1 (by simpa using this)]
    exact hh

/-- Where the script stands: the reader at block G, the document's at G + 1, the bytes that were lent, those that came in. -/
structure SR (w W : World) (G base : Nat) (sin sb : Value) (b : List UInt8) (a : Nat) (e : Int) (a2 : Nat) (e2 : Int) : Prop where
  below : Below w.heap.size w W
  rd : Rdr W G sin a e
  rf : RAt W (G + 1) 52 b a2 e2 w.heap.size
  mkd : Marked base b sin W
  bb : RdB W sb b
  ob : ∀ x, w.heap.size ≤ x → Off sb x
  oi : ∀ a n c, sin = .slice (some a) n c → a.block < G
  hG : w.heap.size ≤ G
  al : a ≤ b.length
  al2 : a2 ≤ b.length
theorem SR.lt {w W : World} {G base : Nat} {sin sb : Value} {b : List UInt8} {a : Nat} {e : Int} {a2 : Nat} {e2 : Int} (h : SR w W G base sin sb b a e a2 e2) : G + 1 < W.heap.size := by
  obtain ⟨v, h1, _⟩ := h.rf
  exact h1.lt
theorem SR.off {w W : World} {G base : Nat} {sin sb : Value} {b : List UInt8} {a : Nat} {e : Int} {a2 : Nat} {e2 : Int} (h : SR w W G base sin sb b a e a2 e2) {x : Nat} (hx : G ≤ x) : Off sin x := fun ad n c hs _ => by have := h.oi ad n c hs; omega
theorem SR.kept {w W W' : World} {G base : Nat} {sin sb : Value} {b : List UInt8} {a : Nat} {e : Int} {a2 : Nat} {e2 : Int} (h : SR w W G base sin sb b a e a2 e2) {x : Nat} (hg : W.grownBy W' (some x)) (hx : G + 1 < x) : SR w W' G base sin sb b a e a2 e2 :=
  have hG := h.hG
  ⟨h.below.grown hg h.below.size (fun k e => by cases e; omega), h.rd.kept hg (by simp; omega), h.rf.kept hg (by omega) (by omega), h.mkd.kept hg (fun ad n c hs => by have := h.oi ad n c hs; omega), h.bb.grown hg (h.ob x (by omega)), h.ob, h.oi, h.hG, h.al, h.al2⟩
end Go.Proofs.Ytoflehlkacofjaa
