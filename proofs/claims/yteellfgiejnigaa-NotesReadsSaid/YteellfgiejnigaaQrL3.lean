/- L3: T8, T10, T13, T14, T15, T16, T17, T18, T19, T20. -/
import Derived.Test.YteellfgiejnigaaQrL1
import Derived.Test.YteellfgiejnigaaQrL2
import Derived.Test.YteellfgiejnigaaQrT7
import Derived.Lib.SmallJoins
import Derived.OpenShut
namespace Go.Proofs.Yteellfgiejnigaa
open Go.ChangeShapes Go.WideShapes Go.ChangeAt Go.RowKit
set_option linter.unusedVariables false
section
variable {ops : Array Oper} {rest : List Oper} {o : Oper} {a : Act} {w : World} {Q : Exit → Act → World → Prop}
end
end Go.Proofs.Yteellfgiejnigaa
/- A pair of numbers that came in, by value. -/
namespace Go.Proofs.Yteellfgiejnigaa
open Go.ChangeShapes Go.WideShapes Go.ChangeAt Go.RowKit Go.Deep
set_option linter.unusedVariables false
section
variable {H : Type} {enc : TypeId × Value → H} {w : World} {base : Nat} {spare : Nat → Bool} {held : Bool}
end
end Go.Proofs.Yteellfgiejnigaa
/- The walk of Slice. -/
namespace Go.Proofs.Yteellfgiejnigaa
open Go.ChangeShapes Go.WideShapes Go.ChangeAt Go.RowKit
set_option linter.unusedVariables false
end Go.Proofs.Yteellfgiejnigaa
/- Walks of may and Cut. -/
namespace Go.Proofs.Yteellfgiejnigaa
open Go.ChangeShapes Go.WideShapes Go.ChangeAt Go.RowKit
set_option linter.unusedVariables false
/-- The row's beginning, with no room behind it. -/
theorem EsG.cut {w : World} {S : Foot} {e : TypeId} {p : Option Addr} {m c : Nat} {es : List Ent} (h : EsG w S e (.slice p m c) es) {n : Nat} (hn : n ≤ es.length) : EsG w S e (.slice p n n) (es.take n) := by
  rcases h with ⟨h, rfl⟩ | ⟨g, cap, cur, h, hg, hh, h1, h2, h3, h4⟩
  · cases h
    have : n = 0 := by simpa using hn
    subst this
    exact .inl ⟨rfl, rfl⟩
  · cases h
    have hl : (es.take n).length = n := by rw [List.length_take]; omega
    refine .inr ⟨g, n, cur, by rw [hl], hg, hh, by rw [hl]; exact Nat.le_refl _, by omega, by omega, ?_⟩
    have := h4.take n
    rw [List.take_take, Nat.min_eq_left (by omega)] at this
    rw [hl]; exact this
end Go.Proofs.Yteellfgiejnigaa
/- The walk of the document's Same: are two rows the same entries? -/
namespace Go.Proofs.Yteellfgiejnigaa
open Go.ChangeShapes Go.WideShapes Go.ChangeAt Go.RowKit
set_option linter.unusedVariables false
theorem EsR.both {w : World} {S : Foot} {v : Value} {es : List Ent} (h : EsR w S v es) (k : Nat) (hk : k < es.length) : ∃ b off c d, v = .slice (some ⟨b, off, none⟩) es.length c ∧
    w.cell? ⟨b, off + k * 2, none⟩ = some (.int .u64 ((es[k].1 : Nat) : Int)) ∧ w.cell? ⟨b, off + k * 2 + 1, none⟩ = some d ∧ RdB w d es[k].2 := by
  obtain ⟨b, off, n, c, d, h1, h2, h3, h4, _⟩ := h.elem k hk
  subst h2
  exact ⟨b, off, c, d, h1, by simpa using h3 0 _ rfl, by simpa using h3 1 _ rfl, h4.rd⟩
theorem bytes_ne {l m : List UInt8} (h : l ≠ m) : ((⟨l.toArray⟩ : ByteArray) == (⟨m.toArray⟩ : ByteArray)) = false := by
  rw [beq_toListBytes, ByteArray.toList_eq, ByteArray.toList_eq]
  simpa using h
end Go.Proofs.Yteellfgiejnigaa
/- Entries that came in. -/
namespace Go.Proofs.Yteellfgiejnigaa
open Go.ChangeShapes Go.WideShapes Go.ChangeAt Go.RowKit Go.Deep
set_option linter.unusedVariables false
section
variable {H : Type} {enc : TypeId × Value → H} {w : World} {base : Nat} {held : Bool}
end
end Go.Proofs.Yteellfgiejnigaa
/- The walk of tame: how many entries, and how many bytes, calls hold. -/
namespace Go.Proofs.Yteellfgiejnigaa
open Go.ChangeShapes Go.WideShapes Go.ChangeAt Go.RowKit
set_option linter.unusedVariables false
end Go.Proofs.Yteellfgiejnigaa
/- What Meet says, in plain numbers: behind what is kept and added the log has what was met. -/
namespace Go.Proofs.Yteellfgiejnigaa
set_option linter.unusedVariables false
end Go.Proofs.Yteellfgiejnigaa
/- The law of TrackMeets. -/
namespace Go.Proofs.Yteellfgiejnigaa
open Go.ChangeShapes Go.WideShapes Go.ChangeAt Go.RowKit
set_option linter.unusedVariables false
end Go.Proofs.Yteellfgiejnigaa
/- The law of TrackMeets: the calls that are looked at. -/
namespace Go.Proofs.Yteellfgiejnigaa
open Go.ChangeShapes Go.WideShapes Go.ChangeAt Go.RowKit
set_option linter.unusedVariables false
theorem EsR.len_form {w : World} {S : Foot} {v : Value} {es : List Ent} (h : EsR w S v es) : ∃ p c, v = .slice p es.length c := by obtain ⟨p, c, xs, e, _⟩ := h; exact ⟨p, c, e⟩
theorem EsR.hi {w : World} {S : Foot} {p : Option Addr} {n c : Nat} {es : List Ent} (h : EsR w S (.slice p n c) es) {m : Nat} (hm : m ≤ es.length) : EsR w S (.slice p m c) (es.take m) := by
  obtain ⟨p', c', xs, e, h1, h2, h3, h4, h5⟩ := h
  cases e
  have hl : (es.take m).length = m := by rw [List.length_take]; omega
  refine ⟨p, c, xs.take (m * 2), by rw [hl], by omega, h2, h3, h4.take m, fun hne => ?_⟩
  obtain ⟨b, off, hp, hb, hlt, hc⟩ := h5 (by intro e; subst e; simp at hne)
  refine ⟨b, off, hp, hb, hlt, fun j u hu => ?_⟩
  rw [List.getElem?_take] at hu
  split at hu
  · exact hc j u hu
  · cases hu
end Go.Proofs.Yteellfgiejnigaa
