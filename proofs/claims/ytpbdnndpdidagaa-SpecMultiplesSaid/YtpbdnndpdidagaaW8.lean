/- Walks of the laws' lent and kept, and of wire.Flag. -/
import Derived.Test.YtpbdnndpdidagaaW7
namespace Go.Proofs.Ytpbdnndpdidagaa
open Go.ChangeShapes Go.WideShapes Go.ChangeAt Go.RowKit
set_option linter.unusedVariables false

/-- A row of these bytes, and behind it one more, that is marked. -/
def Marked (base : Nat) (l : List UInt8) (v : Value) (w : World) : Prop := ∃ g c, v = .slice (some ⟨g, 0, none⟩) l.length c ∧ OB w base 5 (.slice (some ⟨g, 0, none⟩) (l.length + 1) c) (l ++ [77])
theorem Marked.keeps {base : Nat} {l : List UInt8} {v : Value} {x y : World} (h : Marked base l v x) (hk : Keeps x y) : Marked base l v y := by
  obtain ⟨g, c, e, h⟩ := h
  exact ⟨g, c, e, h.keeps hk⟩
theorem Marked.rd {base : Nat} {l : List UInt8} {v : Value} {w : World} (h : Marked base l v w) : RdB w v l := by
  obtain ⟨g, c, rfl, h⟩ := h
  rw [show l.length + 1 = (l ++ [77]).length by simp] at h
  obtain ⟨p', cap, e, hp⟩ := h.rd
  cases e
  have := hp.take l.length
  rw [List.take_left] at this
  exact ⟨_, _, rfl, this⟩

set_option maxRecDepth 100000 in
theorem lent_w (v : Value) (l : List UInt8) (w : World) (h : RdB w v l) (hl : l.length ≤ 1000000) :
    Calls Try.prog 21 #[v] w fun e w' => ∃ v', e = .returned v' ∧ Marked w.heap.size l v' w' ∧ Below w.heap.size w w' := by
  have H := Lib.hid h
  obtain ⟨p, c, rfl, hp⟩ := h
  clear hp
  have H1 := Lib.hid (OB.new w 5)
  have H2 := Lib.hid (H.out.keeps ((Keeps.refl w).alloc (.cells #[] 5)))
  go_enter Try.func21, Try.ntmps21
  go_wp2_with (first
    | (refine wpList_append_bytes rfl (.tmp 3) (.tmp 4) 24 rfl hel rfl H1.out rfl H2.out (by simp; omega) (by simp) ?_; intro p1 n1 c1 w1 hn1 ho1 hg1; have Hn1 := Lib.hid hn1; have Ho1 := Lib.hid ho1; have HB1 := Lib.hid (((Below.refl w.heap.size w).alloc (Nat.le_refl _) _).trans (below_own H1.out hg1 (by simp))); have H77 := Lib.hid (RdB_one w1 5 77 (by decide)); have Ho1' := Lib.hid (ho1.alloc (.cells #[.int .u8 77] 5)); clear hn1 ho1 hg1)
    | (refine wpList_append_bytes rfl (.tmp 5) (.tmp 6) 24 rfl hel rfl Ho1'.out rfl H77.out (by simp; omega) (by have := HB1.out.size; simp; omega) ?_; intro p2 n2 c2 w2 hn2 ho2 hg2; have Hn2 := Lib.hid hn2; have Ho2 := Lib.hid ho2; have HB2 := Lib.hid ((HB1.out.alloc HB1.out.size _).trans (below_own Ho1'.out hg2 (by have := HB1.out.size; simp; omega))); have hcap : l.length ≤ c2 := (by obtain ⟨_, _, e, hq⟩ := ho2.rd; cases e; have := hq.2.1; simp at this; omega); clear hn2 ho2 hg2))
  go_ret
  have ho := Ho2.out
  have hn := Hn2.out
  simp only [List.nil_append, List.length_append, List.length_cons, List.length_nil, Nat.zero_add] at ho hn
  subst hn
  obtain ⟨g, rfl, _⟩ := ho.some (by omega)
  exact ⟨_, rfl, ⟨g, c2, rfl, ho⟩, HB2.out⟩

set_option maxRecDepth 100000 in
theorem kept_w (base : Nat) (v v2 : Value) (l : List UInt8) (w : World) (h : Marked base l v w) (h2 : RdB w v2 l) (hl : l.length ≤ 1000000) :
    Calls Try.prog 28 #[v, v2] w fun e w' => e = .returned (.bool true) ∧ w' = w := by
  have hc1 := run_convert_str (P := Try.prog) h.rd 24 5 9 Try.underlying24 Try.underlying5 Try.underlying9
  have hc2 := run_convert_str (P := Try.prog) h2 24 5 9 Try.underlying24 Try.underlying5 Try.underlying9
  obtain ⟨g, c, rfl, ho⟩ := h
  obtain ⟨p2, c2, rfl, hp2⟩ := h2
  have hcap : l.length + 1 ≤ c := by obtain ⟨_, _, e, hq⟩ := (show OB w base 5 (.slice (some ⟨g, 0, none⟩) ((l ++ [77]).length) c) (l ++ [77]) by rw [List.length_append]; exact ho).rd; cases e; have := hq.2.1; simp at this; omega
  have hsl := run_slice_hi (P := Try.prog) 24 5 Try.underlying24 1 (show (Try.prog.info? 5).map (·.size) = some 1 by kernel_rfl) (some ⟨g, 0, none⟩) l.length c (l.length + 1) hcap
  have hsl' : ∀ W, (Instr.sliceAt 24 (.slice (some ⟨g, 0, none⟩) l.length c) none (some (.int .i64 ((l.length : Int) + 1))) none).run Try.prog W = .ok (.slice (some ⟨g, 0, none⟩) (l.length + 1) c) W := fun W => hsl W
  obtain ⟨h77, -, -, -⟩ := ho.cell (by simp) (j := l.length) (by simp)
  have e77 : (l ++ [77]).getD l.length 0 = (77 : UInt8) := by simp [List.getD]
  rw [e77] at h77
  have hi4 : (l.length : Int) < (l.length : Int) + 1 := by omega
  clear hsl hcap hp2 ho e77
  go_enter Try.func28, Try.ntmps28
  go_wp2
  go_ret
  exact ⟨rfl, rfl⟩
end Go.Proofs.Ytpbdnndpdidagaa
