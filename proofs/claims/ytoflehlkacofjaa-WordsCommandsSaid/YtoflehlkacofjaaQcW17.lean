/- Walks of the document's reader: Small, Nat, Int, Flag, Text, Fail, Done. -/
import Derived.Test.YtoflehlkacofjaaQcW16
namespace Go.Proofs.Ytoflehlkacofjaa
open Go.ChangeShapes Go.WideShapes Go.ChangeAt Go.RowKit
set_option linter.unusedVariables false
/-- The document's reader at block g stands at place a of these bytes, which lie below block N, with this fault. -/
def RAt (w : World) (g : Nat) (T : TypeId) (b : List UInt8) (a : Nat) (e : Int) (N : Nat) : Prop := ∃ v, RRd w g T v e ∧ RdB w v (b.drop a) ∧ ∀ x, N ≤ x → Off v x
theorem RAt.keeps {w w' : World} {g : Nat} {T : TypeId} {b : List UInt8} {a : Nat} {e : Int} {N : Nat} (h : RAt w g T b a e N) (hk : Keeps w w') : RAt w' g T b a e N := by
  obtain ⟨v, h1, h2, h3⟩ := h
  exact ⟨v, by unfold RRd at *; rw [hk g (Array.getElem?_eq_some_iff.1 h1).1]; exact h1, h2.keeps hk, h3⟩
theorem RAt.kept {w w' : World} {g : Nat} {T : TypeId} {b : List UInt8} {a : Nat} {e : Int} {N x : Nat} (h : RAt w g T b a e N) (hg : w.grownBy w' (some x)) (hx : N ≤ x) (hne : g ≠ x) : RAt w' g T b a e N := by
  obtain ⟨v, h1, h2, h3⟩ := h
  exact ⟨v, by unfold RRd at *; rw [hg.block g (Array.getElem?_eq_some_iff.1 h1).1 (by simpa using hne)]; exact h1, h2.grown hg (h3 x hx), h3⟩
/-- It has moved; all else is as it was. -/
structure RM (w w' : World) (g : Nat) (T : TypeId) (b : List UInt8) (a : Nat) (e : Int) (N : Nat) : Prop where
  at_ : RAt w' g T b a e N
  grown : w.grownBy w' (some g)
theorem RM.fail {w : World} {g : Nat} {T : TypeId} {v : Value} {b : List UInt8} {a : Nat} {e : Int} {N : Nat} (h : RRd w g T v e) (hb : RdB w v (b.drop a)) (ho : ∀ x, N ≤ x → Off v x) (hg : N ≤ g) (e' : Int) : RM w (w.setCell ⟨g, 1, none⟩ (.int .i64 e')) g T b a e' N :=
  ⟨⟨v, h.set1 e', hb.grown (Lib.grownBy_setCell w g 1 _) (ho g hg), ho⟩, Lib.grownBy_setCell w g 1 _⟩
theorem RM.refl {w : World} {g : Nat} {T : TypeId} {b : List UInt8} {a : Nat} {e : Int} {N : Nat} (h : RAt w g T b a e N) : RM w w g T b a e N := ⟨h, World.grownBy.refl _ _⟩

end Go.Proofs.Ytoflehlkacofjaa
