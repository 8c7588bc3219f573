/- V1: VForm, VForm2, VW1, VW2, VW3, VW4, VW5, VW6, VW7, VW8, VW9, VS5. -/
import Derived.Test.YteellfgiejnigaaQnL1
import Derived.Test.YteellfgiejnigaaQnL2
import Derived.Test.YteellfgiejnigaaRows
import Derived.Below
import Derived.BigQuiet
import Derived.Deep.QuietTactic
import Derived.Lib.BufferOwn
import Derived.Lib.Hide
import Derived.Maps.AppendAt
import Derived.OpenShut
import Derived.ProofKit
import Derived.WalkKit
import Derived.WalkSmall
namespace Go.Proofs.Yteellfgiejnigaa.Form
/-- A whole number as a natural one. -/
def fold (i : Int) : Nat := if 0 ≤ i then 2 * i.toNat else 2 * (-(i + 1)).toNat + 1
/-- How far it is from 0. -/
def far (i : Int) : Nat := if 0 ≤ i then i.toNat else (-(i + 1)).toNat
/-- A number read out of bytes, k bytes behind its beginning: the number, how many bytes it has, the fault. -/
def rd : Nat → Nat → List UInt8 → Nat × Nat × Nat
  | _, _, [] => (0, 0, 4)
  | k, acc, x :: t =>
    if (k = 9 ∧ 1 < x.toNat) ∨ 9 < k then (0, 0, 5)
    else if x.toNat < 128 then (if x.toNat = 0 ∧ 0 < k then (0, 0, 5) else (acc + x.toNat % 128 * 128 ^ k, k + 1, 0))
    else rd (k + 1) (acc + x.toNat % 128 * 128 ^ k) t
/-- What a reader at place a, with fault e, answers to Small: the number, the place behind it, the fault. -/
def small (b : List UInt8) (a : Nat) (e : Int) (most : Nat) : Nat × Nat × Int :=
  if e ≠ 0 then (0, a, e)
  else
    let r := rd 0 0 (b.drop a)
    if r.2.2 = 0 then (if most < r.1 then (0, a, 5) else (r.1, a + r.2.1, 0)) else (0, a, (r.2.2 : Nat))
end Go.Proofs.Yteellfgiejnigaa.Form
/- The forms once more, plain: what is read is what would be written; the document's way to read a number. -/
namespace Go.Proofs.Yteellfgiejnigaa.Form
/-- How many bytes that go on. -/
def lead : List UInt8 → Nat
  | [] => 0
  | x :: t => if 128 ≤ x.toNat then lead t + 1 else 0
/-- The first k + 1 bytes as a number, from byte i on. -/
def val : List UInt8 → Nat
  | [] => 0
  | x :: t => x.toNat % 128 + 128 * val t
end Go.Proofs.Yteellfgiejnigaa.Form
/- Walk of wire.Nat. -/
namespace Go.Proofs.Yteellfgiejnigaa
open Go.ChangeShapes Go.WideShapes Go.ChangeAt Go.RowKit
set_option linter.unusedVariables false
theorem OB.alloc {w : World} {base : Nat} {e : TypeId} {v : Value} {l : List UInt8} (h : OB w base e v l) (o : Obj) : OB (w.alloc o) base e v l := h.keeps ((Keeps.refl w).alloc o)

end Go.Proofs.Yteellfgiejnigaa
/- Walks of folded and wire.Int. -/
namespace Go.Proofs.Yteellfgiejnigaa
open Go.ChangeShapes Go.WideShapes Go.ChangeAt Go.RowKit
set_option linter.unusedVariables false
end Go.Proofs.Yteellfgiejnigaa
/- Walks of the reader. -/
namespace Go.Proofs.Yteellfgiejnigaa
open Go.ChangeShapes Go.WideShapes Go.ChangeAt Go.RowKit
set_option linter.unusedVariables false
/-- A reader lies at block g. -/
def Rdr (w : World) (g : Nat) (v : Value) (at_ : Nat) (e : Int) : Prop := w.heap[g]? = some (.cells #[v, .int .i64 (at_ : Int), .int .i64 e] 171)

theorem PtB.drop {w : World} {p : Option Addr} {c : Nat} {l : List UInt8} (h : PtB w p c l) (a : Nat) (ha : a ≤ l.length) : PtB w (if c = a then p else p.map (·.add (a * 1))) (c - a) (l.drop a) := by
  obtain ⟨h1, h2, h3, h4⟩ := h
  refine ⟨fun e => ?_, by rw [List.length_drop]; omega, by omega, fun hne => ?_⟩
  · split at e
    · omega
    · cases p with
      | none => have := h1 rfl; omega
      | some x => cases e
  · have hlt : a < l.length := by
      rcases Nat.lt_or_ge a l.length with hh | hh
      · exact hh
      · exact absurd (List.drop_eq_nil_of_le hh) hne
    obtain ⟨b, off, rfl, hc⟩ := h4 (by rintro rfl; simp at hlt)
    rw [if_neg (by omega)]
    refine ⟨b, off + a, by simp [Addr.add], fun i hi => ?_⟩
    rw [List.length_drop] at hi
    have := hc (a + i) (by omega)
    rw [← Nat.add_assoc] at this
    rw [this]
    simp [List.getD]

end Go.Proofs.Yteellfgiejnigaa
/- Walks of the reader: Small, Nat, Int, Left, Done, Fail. -/
namespace Go.Proofs.Yteellfgiejnigaa
open Go.ChangeShapes Go.WideShapes Go.ChangeAt Go.RowKit
set_option linter.unusedVariables false
theorem Rdr.lt {w : World} {g : Nat} {v : Value} {a : Nat} {e : Int} (h : Rdr w g v a e) : g < w.heap.size := (Array.getElem?_eq_some_iff.1 h).1
theorem Rdr.same {w w' : World} {g : Nat} {v : Value} {a : Nat} {e : Int} (h : Rdr w g v a e) (hs : RegT.Same w w') : Rdr w' g v a e := by unfold Rdr; rw [hs.heap]; exact h
theorem Rdr.frozen {w : World} {g : Nat} {v : Value} {a : Nat} {e : Int} (h : Rdr w g v a e) (i : Nat) : w.frozen? ⟨g, i, none⟩ = false := by
  unfold Rdr at h
  simp [World.frozen?, h]

/-- The slice does not lie in block g. -/
def Off (v : Value) (g : Nat) : Prop := ∀ a n c, v = .slice (some a) n c → n ≠ 0 → a.block ≠ g
theorem RdB.grown {w w' : World} {v : Value} {l : List UInt8} {g : Nat} (h : RdB w v l) (hg : w.grownBy w' (some g)) (ho : Off v g) : RdB w' v l := by
  obtain ⟨p, c, rfl, h1, h2, h3, h4⟩ := h
  refine ⟨p, c, rfl, h1, h2, h3, fun hne => ?_⟩
  obtain ⟨b, off, rfl, hc⟩ := h4 hne
  have := ho _ _ _ rfl (fun e => hne (List.eq_nil_of_length_eq_zero e))
  exact ⟨b, off, rfl, fun i hi => hg.cell (hc i hi) (fun e => this (by cases e; rfl))⟩
theorem RdB.off {w : World} {v : Value} {l : List UInt8} (h : RdB w v l) {g : Nat} (hg : w.heap.size ≤ g) : Off v g := by
  obtain ⟨p, c, rfl, hp⟩ := h
  intro a n c' e hn
  simp only [Value.slice.injEq] at e
  obtain ⟨rfl, rfl, rfl⟩ := e
  obtain ⟨b, off, e, hb, _⟩ := hp.at (k := 0) (by omega)
  cases e
  show b ≠ g
  omega
end Go.Proofs.Yteellfgiejnigaa
/- Walks of the reader: Nat, Done; known. -/
namespace Go.Proofs.Yteellfgiejnigaa
open Go.ChangeShapes Go.WideShapes Go.ChangeAt Go.RowKit
set_option linter.unusedVariables false
end Go.Proofs.Yteellfgiejnigaa
/- Walk of the law WireOrder. -/
namespace Go.Proofs.Yteellfgiejnigaa
open Go.ChangeShapes Go.WideShapes Go.ChangeAt Go.RowKit
set_option linter.unusedVariables false
end Go.Proofs.Yteellfgiejnigaa
/- Walks of wire.Text and of the law WirePrefix. -/
namespace Go.Proofs.Yteellfgiejnigaa
open Go.ChangeShapes Go.WideShapes Go.ChangeAt Go.RowKit
set_option linter.unusedVariables false
namespace Form
end Form
theorem str_beq (t x : List UInt8) : ((⟨t.toArray⟩ : ByteArray).toList == (⟨x.toArray⟩ : ByteArray).toList) = decide (t = x) := by
  rw [ByteArray.toList_eq, ByteArray.toList_eq]
  by_cases h : t = x
  · subst h; simp
  · rw [decide_eq_false h]; simpa using h

end Go.Proofs.Yteellfgiejnigaa
/- Walks of the laws' lent and kept, and of wire.Flag. -/
namespace Go.Proofs.Yteellfgiejnigaa
open Go.ChangeShapes Go.WideShapes Go.ChangeAt Go.RowKit
set_option linter.unusedVariables false
/-- A row of these bytes, and behind it one more, that is marked. -/
def Marked (base : Nat) (l : List UInt8) (v : Value) (w : World) : Prop := ∃ g c, v = .slice (some ⟨g, 0, none⟩) l.length c ∧ OB w base 5 (.slice (some ⟨g, 0, none⟩) (l.length + 1) c) (l ++ [77])
theorem Marked.keeps {base : Nat} {l : List UInt8} {v : Value} {x y : World} (h : Marked base l v x) (hk : Keeps x y) : Marked base l v y := by
  obtain ⟨g, c, e, h⟩ := h
  exact ⟨g, c, e, h.keeps hk⟩
theorem Marked.rd {base : Nat} {l : List UInt8} {v : Value} {w : World} (h : Marked base l v w) : RdB w v l := by
  obtain ⟨g, c, rfl, h⟩ := h
  rw [show l.length + 1 = (l ++ [77]).length by simp] at h
  obtain ⟨p', cap, e, hp⟩ := h.rd
  cases e
  have := hp.take l.length
  rw [List.take_left] at this
  exact ⟨_, _, rfl, this⟩

end Go.Proofs.Yteellfgiejnigaa
/- Walks of the document's forms (numbers, whole numbers, flags, texts), of wire.Flag and of the law's own. -/
namespace Go.Proofs.Yteellfgiejnigaa
open Go.ChangeShapes Go.WideShapes Go.ChangeAt Go.RowKit
set_option linter.unusedVariables false
end Go.Proofs.Yteellfgiejnigaa
/- Behind which bytes a form is laid, and where: the finer frame of wire.Nat and wire.Int. -/
namespace Go.Proofs.Yteellfgiejnigaa
open Go.ChangeShapes Go.WideShapes Go.ChangeAt Go.RowKit
set_option linter.unusedVariables false
/-- The new row lies where the old one lay, or in a block that was made since. -/
def Near (w : World) (v v' : Value) : Prop := v'.ownBlock = v.ownBlock ∨ ∃ g, v'.ownBlock = some g ∧ w.heap.size ≤ g
theorem Near.refl (w : World) (v : Value) : Near w v v := .inl rfl
theorem Near.trans {w w1 : World} {v v1 v2 : Value} (h : Near w v v1) (k : Near w1 v1 v2) (hs : w.heap.size ≤ w1.heap.size) : Near w v v2 := by
  rcases k with k | ⟨g, k, hg⟩
  · rcases h with h | ⟨g, h, hg⟩
    · exact .inl (k.trans h)
    · exact .inr ⟨g, k.trans h, hg⟩
  · exact .inr ⟨g, k, Nat.le_trans hs hg⟩
section
variable {P : Program} {ops : Array Oper} {rest : List Oper} {o : Oper} {a : Act} {w : World} {Q : Exit → Act → World → Prop}
end
end Go.Proofs.Yteellfgiejnigaa
