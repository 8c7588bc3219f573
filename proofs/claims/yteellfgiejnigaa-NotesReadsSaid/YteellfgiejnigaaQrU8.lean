/- Plain: a form cut, or with a byte behind it, is none; a form is read as what it is of. And what the law NotesCut asks of its callees. -/
import Derived.Test.YteellfgiejnigaaQrN12
import Derived.Test.YteellfgiejnigaaQrU7
namespace Go.Proofs.Yteellfgiejnigaa
open Go.ChangeShapes Go.WideShapes Go.ChangeAt Go.RowKit
set_option linter.unusedVariables false
/-- A note whose numbers are of 64 bits. -/
structure Nt.Fit (x : Nt) : Prop where
  term : x.term < 2 ^ 64
  round : x.round < 2 ^ 64
  index : x.index < 2 ^ 64
  at_ : x.at_ < 2 ^ 64
  commit : x.commit < 2 ^ 64
  list : ∀ e ∈ x.list, e.1 < 2 ^ 64
theorem NtA.fit {w : World} {S : Foot} {lv dv : Value} {x : Nt} (h : NtA w S lv dv x) : x.Fit :=
  ⟨h.term, h.round, h.index, h.at_, h.commit, fun e he => by
    obtain ⟨i, hi, rfl⟩ := List.getElem_of_mem he
    obtain ⟨_, _, _, _, _, _, _, _, _, _, h⟩ := h.l.elemF i hi
    exact h⟩
namespace Rd
theorem back {x : Nt} (hm : mayN x = true) (hf : x.Fit) (tl : List UInt8) : taken (formN x ++ tl) = x ∧ (sR (formN x ++ tl)).2 = ((formN x).length, 0) :=
  taken_back x tl hm hf.term hf.round hf.index hf.at_ hf.commit hf.list
end Rd
end Go.Proofs.Yteellfgiejnigaa
