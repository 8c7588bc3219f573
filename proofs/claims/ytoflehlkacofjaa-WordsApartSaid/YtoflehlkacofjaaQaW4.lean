/- Walks of the reader: Small, Nat, Int, Left, Done, Fail. -/
import Derived.Test.YtoflehlkacofjaaQaW3
import Derived.Lib.BufferOwn
import Derived.Maps.AppendAt
namespace Go.Proofs.Ytoflehlkacofjaa
open Go.ChangeShapes Go.WideShapes Go.ChangeAt Go.RowKit
set_option linter.unusedVariables false
theorem Rdr.lt {w : World} {g : Nat} {v : Value} {a : Nat} {e : Int} (h : Rdr w g v a e) : g < w.heap.size := (Array.getElem?_eq_some_iff.1 h).1
theorem Rdr.set1 {w : World} {g : Nat} {v : Value} {a : Nat} {e : Int} (h : Rdr w g v a e) (a' : Nat) : Rdr (w.setCell ⟨g, 1, none⟩ (.int .i64 (a' : Int))) g v a' e := by
  unfold Rdr at *
  simp only [World.setCell, Array.getElem?_modify, h]; rfl
theorem Rdr.same {w w' : World} {g : Nat} {v : Value} {a : Nat} {e : Int} (h : Rdr w g v a e) (hs : RegT.Same w w') : Rdr w' g v a e := by unfold Rdr; rw [hs.heap]; exact h
theorem Rdr.frozen {w : World} {g : Nat} {v : Value} {a : Nat} {e : Int} (h : Rdr w g v a e) (i : Nat) : w.frozen? ⟨g, i, none⟩ = false := by
  unfold Rdr at h
  simp [World.frozen?, h]

/-- The slice does not lie in block g. -/
def Off (v : Value) (g : Nat) : Prop := ∀ a n c, v = .slice (some a) n c → n ≠ 0 → a.block ≠ g
theorem RdB.grown {w w' : World} {v : Value} {l : List UInt8} {g : Nat} (h : RdB w v l) (hg : w.grownBy w' (some g)) (ho : Off v g) : RdB w' v l := by
  obtain ⟨p, c, rfl, h1, h2, h3, h4⟩ := h
  refine ⟨p, c, rfl, h1, h2, h3, fun hne => ?_⟩
  obtain ⟨b, off, rfl, hc⟩ := h4 hne
  have := ho _ _ _ rfl (fun e => hne (List.eq_nil_of_length_eq_zero e))
  exact ⟨b, off, rfl, fun i hi => hg.cell (hc i hi) (fun e => this (by cases e; rfl))⟩
theorem RdB.off {w : World} {v : Value} {l : List UInt8} (h : RdB w v l) {g : Nat} (hg : w.heap.size ≤ g) : Off v g := by
  obtain ⟨p, c, rfl, hp⟩ := h
  intro a n c' e hn
  simp only [Value.slice.injEq] at e
  obtain ⟨rfl, rfl, rfl⟩ := e
  obtain ⟨b, off, e, hb, _⟩ := hp.at (k := 0) (by omega)
  cases e
  show b ≠ g
  omega
/-- The reader at block g is now at this place, with this fault; all else is as it was. -/
def Moved (w w' : World) (g : Nat) (v : Value) (a : Nat) (e : Int) : Prop := Rdr w' g v a e ∧ w.grownBy w' (some g)
end Go.Proofs.Ytoflehlkacofjaa
