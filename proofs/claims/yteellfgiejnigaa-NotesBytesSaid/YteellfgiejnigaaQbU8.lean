/- Plain: a form cut, or with a byte behind it, is none; a form is read as what it is of. And what the law NotesCut asks of its callees. -/
import Derived.Test.YteellfgiejnigaaQbN12
import Derived.Test.YteellfgiejnigaaQbU7
namespace Go.Proofs.Yteellfgiejnigaa
open Go.ChangeShapes Go.WideShapes Go.ChangeAt Go.RowKit
set_option linter.unusedVariables false
/-- A note whose numbers are of 64 bits. -/
structure Nt.Fit (x : Nt) : Prop where
  term : x.term < 2 ^ 64
  round : x.round < 2 ^ 64
  index : x.index < 2 ^ 64
  at_ : x.at_ < 2 ^ 64
  commit : x.commit < 2 ^ 64
  list : ∀ e ∈ x.list, e.1 < 2 ^ 64
theorem NtA.fit {w : World} {S : Foot} {lv dv : Value} {x : Nt} (h : NtA w S lv dv x) : x.Fit :=
  ⟨h.term, h.round, h.index, h.at_, h.commit, fun e he => by
    obtain ⟨i, hi, rfl⟩ := List.getElem_of_mem he
    obtain ⟨_, _, _, _, _, _, _, _, _, _, h⟩ := h.l.elemF i hi
    exact h⟩
namespace Rd
theorem back {x : Nt} (hm : mayN x = true) (hf : x.Fit) (tl : List UInt8) : taken (formN x ++ tl) = x ∧ (sR (formN x ++ tl)).2 = ((formN x).length, 0) :=
  taken_back x tl hm hf.term hf.round hf.index hf.at_ hf.commit hf.list
theorem fine_back {x : Nt} (hm : mayN x = true) (hf : x.Fit) : fine (formN x) = true ∧ note (formN x) = x := by
  have h := back hm hf []
  rw [List.append_nil] at h
  have h1 : fine (formN x) = true := by
    unfold fine
    rw [h.1, h.2, hm]
    unfold Form.done
    simp
  exact ⟨h1, by unfold note; rw [if_pos h1, h.1]⟩
end Rd
theorem formN_pos (x : Nt) : 0 < (formN x).length := by
  have := Form.nat_pos x.kind
  unfold formN
  simp only [List.length_append]
  omega
theorem formN_len {x : Nt} (hm : mayN x = true) (hf : x.Fit) : (formN x).length ≤ 900000 := by
  obtain ⟨m1, m2, m3, m4, m5, m6, m7, m8, m9, m10, m11, m12, m13, m14⟩ := mayN_open hm
  have hlong := anyLong_no m14
  obtain ⟨k, t, r, i, s, c, y, L, D⟩ := x
  obtain ⟨f1, f2, f3, f4, f5, f6⟩ := hf
  dsimp only at *
  have h1 := Form.nat_len10 (n := k) (by omega)
  have h2 := Form.nat_len10 f1
  have h3 := natsN_len [(hasR k, r), (hasI k, i), (hasA k, s), (hasC k, c)] (by intro f hf; simp at hf; rcases hf with rfl | rfl | rfl | rfl <;> assumption)
  have h4 := entsN_len L fun e he => ⟨f6 e he, hlong e he⟩
  have h5 := Form.nat_len10 (n := L.length) (by omega)
  have h6 := Form.nat_len10 (n := D.length) (by omega)
  have h7 : (Form.text D).length = (Form.nat D.length).length + D.length := by unfold Form.text; rw [List.length_append]
  have h8 : (Form.flag y).length = 1 := rfl
  simp only [List.length_cons, List.length_nil] at h3
  have h9 : (if hasY k then Form.flag y else if hasL k then Form.nat L.length ++ entsN L else if hasD k then Form.text D else []).length ≤ 600000 := by
    split
    · omega
    · split
      · rw [List.length_append]; omega
      · split
        · omega
        · simp
  have h10 : (formN ⟨k, t, r, i, s, c, y, L, D⟩).length = ((Form.nat k).length + (Form.nat t).length + (natsN [(hasR k, r), (hasI k, i), (hasA k, s), (hasC k, c)]).length) + (if hasY k then Form.flag y else if hasL k then Form.nat L.length ++ entsN L else if hasD k then Form.text D else []).length := by
    unfold formN
    simp only [List.length_append]
  omega
end Go.Proofs.Yteellfgiejnigaa
