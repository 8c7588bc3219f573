/- The document's Bytes: its walks joined. -/
import Derived.Test.YteellfgiejnigaaQbX4
namespace Go.Proofs.Yteellfgiejnigaa
open Go.ChangeShapes Go.WideShapes Go.ChangeAt Go.RowKit
set_option linter.unusedVariables false
theorem rbytes_w (x : Nt) (lv dv : Value) (S : Foot) (w : World) (h : NtA w S lv dv x) (hm : mayN x = true) :
    Calls Try.prog 48 #[ntv x lv dv] w fun e w' => (∃ p n c, e = .returned (.slice p n c) ∧ OB w' w.heap.size 5 (.slice p n c) (formN x)) ∧ Below w.heap.size w w' := by
  obtain ⟨m1, m2, m3, m4, m5, m6, m7, m8, m9, m10, m11, m12, m13, m14⟩ := mayN_open hm
  have hlong := anyLong_no m14
  obtain ⟨⟨pl, cl, rfl⟩, ⟨pd, cd, rfl⟩⟩ := h.forms
  obtain ⟨k, t, r, i, a, c, y, L, D⟩ := x
  unfold ntv
  dsimp only at *
  have hk : k = 1 ∨ k = 2 ∨ k = 3 ∨ k = 4 ∨ k = 5 ∨ k = 6 ∨ k = 7 := by omega
  rcases hk with rfl | rfl | rfl | rfl | rfl | rfl | rfl
  · rw [formN_1]; exact rbytes_1_w t r i a c y pl pd cl cd L D S w h m12 hlong m13
  · rw [formN_2]; exact rbytes_2_w t r i a c y pl pd cl cd L D S w h m12 hlong m13
  · rw [formN_3]; exact rbytes_3_w t r i a c y pl pd cl cd L D S w h m12 hlong m13
  · rw [formN_4]; exact rbytes_4_w t r i a c y pl pd cl cd L D S w h m12 hlong m13
  · rw [formN_5]; exact rbytes_5_w t r i a c y pl pd cl cd L D S w h m12 hlong m13
  · rw [formN_6]; exact rbytes_6_w t r i a c y pl pd cl cd L D S w h m12 hlong m13
  · rw [formN_7]; exact rbytes_7_w t r i a c y pl pd cl cd L D S w h m12 hlong m13
end Go.Proofs.Yteellfgiejnigaa
