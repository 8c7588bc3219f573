/- Walk of Take. -/
import Derived.Test.YtoflehlkacofjaaQaS7
namespace Go.Proofs.Ytoflehlkacofjaa
open Go.ChangeShapes Go.WideShapes Go.ChangeAt Go.RowKit
set_option linter.unusedVariables false
theorem SpAt.frozen {w : World} {B : Nat} {s : Sp} (h : SpAt w B s) (k : Nat) : w.frozen? ⟨B, k, none⟩ = false := by
  unfold SpAt at h
  simp [World.frozen?, h]
theorem TK.alloc {w wr : World} {g : Nat} {v : Value} {b : List UInt8} {a : Nat} {e : Int} {R B k j : Nat} (h : TK w wr g v b a e R B k j) (o : Obj) : TK w (wr.alloc o) g v b a e R B k j :=
  have hk : Keeps wr (wr.alloc o) := (Keeps.refl wr).alloc o
  have hg : wr.grownBy (wr.alloc o) (some g) := World.grownBy_alloc wr o _
  have hn : wr.grownBy (wr.alloc o) none := World.grownBy_alloc wr o _
  ⟨h.rd.keeps hk, h.bs.keeps hk, h.sp.kept hn (by simp), h.rz.kept hn (by simp), h.gr.trans hg⟩
theorem cells_one (s : Sp) : s.cells.all (·.oneCell') = true := by unfold Sp.cells; simp [Value.oneCell']
end Go.Proofs.Ytoflehlkacofjaa
