/- The law of tracks that are not there. -/
import Derived.Test.YteellfgiejnigaaT11
import Derived.OneCell
namespace Go.Proofs.Yteellfgiejnigaa
open Go.ChangeShapes Go.WideShapes Go.ChangeAt Go.RowKit
set_option linter.unusedVariables false

set_option maxRecDepth 100000 in
theorem meet_nil_w (n m : Nat) (w : World) : Calls Try.prog 24 #[.pointer none, .int .u64 (n : Int), .int .u64 (m : Int), .slice none 0 0] w fun r w' => r = .returned (.tuple #[.int .u64 0, .slice none 0 0, .int .i64 1]) ∧ Below w.heap.size w w' := by
  obtain ⟨W0, hW0⟩ : ∃ W0, (((w.alloc (.cells #[.pointer none] 41)).alloc (.cells #[.slice none 0 0] 28)).alloc (.cells #[.int .u64 0] 22)).alloc (.cells #[.slice none 0 0] 28) = W0 := ⟨_, rfl⟩
  have r0 : W0.heap[w.heap.size]? = some (.cells #[.pointer none] 41) := by
    rw [← hW0, heap_alloc_get, if_neg (by simp only [heap_alloc_size]; omega), heap_alloc_get, if_neg (by simp only [heap_alloc_size]; omega), heap_alloc_get, if_neg (by simp only [heap_alloc_size]; omega), heap_alloc_get, if_pos rfl]
  have r2 : W0.heap[w.heap.size + 1 + 1]? = some (.cells #[.int .u64 ((0 : Nat) : Int)] 22) := by
    rw [← hW0, heap_alloc_get, if_neg (by simp only [heap_alloc_size]; omega), heap_alloc_get, if_pos (by simp only [heap_alloc_size])]; rfl
  have r3 : W0.heap[w.heap.size + 1 + 1 + 1]? = some (.cells #[.slice none 0 0] 28) := by
    rw [← hW0, heap_alloc_get, if_pos (by simp only [heap_alloc_size])]
  have hB0 : Below w.heap.size w W0 := by rw [← hW0]; exact ((((Below.refl w.heap.size w).alloc (Nat.le_refl _) _).alloc (by simp) _).alloc (by simp; omega) _).alloc (by simp; omega) _
  have f0 := one_cell r0
  have f2 := one_cell r2
  have f3 := one_frozen r2
  have f4 := one_cell r3
  have f5 := one_frozen r3
  have R2 := Lib.hid r2
  have R3 := Lib.hid r3
  have HB := Lib.hid hB0
  have HW0 := Lib.hid hW0
  clear hW0 r0 r2 r3 hB0
  go_enter Try.func24, Try.ntmps24
  go_wp2
  rw [HW0.out]
  clear HW0
  go_step3
  go_wp2
  have h2 : ((W0.setCell ⟨w.heap.size + 1 + 1, 0, none⟩ (.int .u64 0)).setCell ⟨w.heap.size + 1 + 1 + 1, 0, none⟩ (.slice none 0 0)).heap[w.heap.size + 1 + 1]? = some (.cells #[.int .u64 ((0 : Nat) : Int)] 22) := by
    rw [Below.heap_setCell _ _ _ _ (by simp)]
    simp only [World.setCell, Array.getElem?_modify, R2.out, if_true, Option.map_some]; rfl
  have h3 : ((W0.setCell ⟨w.heap.size + 1 + 1, 0, none⟩ (.int .u64 0)).setCell ⟨w.heap.size + 1 + 1 + 1, 0, none⟩ (.slice none 0 0)).heap[w.heap.size + 1 + 1 + 1]? = some (.cells #[.slice none 0 0] 28) := by
    have h4 : (W0.setCell ⟨w.heap.size + 1 + 1, 0, none⟩ (.int .u64 0)).heap[w.heap.size + 1 + 1 + 1]? = some (.cells #[.slice none 0 0] 28) := by rw [Below.heap_setCell _ _ _ _ (by simp)]; exact R3.out
    exact one_setCell h4
  rw [Exit.noGoto_ret]
  refine bodyPost_ret (v := .tuple #[.int .u64 ((0 : Nat) : Int), .slice none 0 0, .int .i64 1]) (results_cct rfl _ _ _ _ _ _ _ rfl rfl rfl h2 h3) rfl ?_
  exact ⟨rfl, (HB.out.setCell (p := ⟨w.heap.size + 1 + 1, 0, none⟩) (by show w.heap.size ≤ w.heap.size + 1 + 1; omega) _).setCell (p := ⟨w.heap.size + 1 + 1 + 1, 0, none⟩) (by show w.heap.size ≤ w.heap.size + 1 + 1 + 1; omega) _⟩
theorem hz67 : ((Try.prog.info? 67).bind (·.zero)).map Value.cells = some #[.int .u64 0, .int .u64 0, .slice none 0 0] := by kernel_rfl
theorem add3_w (S R : Foot) (g : Nat) (sv : Value) (w : World) (h : TkAt w S g 0 0 (.slice none 0 0) []) (hr : EsR w R sv (bare [3])) (hd : ∀ b, b < w.heap.size → R b → S b → False) :
    Calls Try.prog 27 #[.pointer (some ⟨g, 0, none⟩), sv] w fun r w' => (∃ x, r = .returned x) ∧ ∃ v', TkAt w' (fun b => S b ∨ w.heap.size ≤ b) g 0 0 v' (bare [3]) ∧ Touch S w w' :=
  add_w S R g 0 0 (.slice none 0 0) sv [] (bare [3]) w h hr hd (by decide) (bare_le _)
theorem tip13_w (S : Foot) (g : Nat) (v : Value) (w : World) (h : TkAt w S g 0 0 v (bare [3])) :
    Calls Try.prog 23 #[.pointer (some ⟨g, 0, none⟩)] w fun r w' => r = .returned (.tuple #[.int .u64 1, .int .u64 3]) ∧ Below w.heap.size w w' :=
  tip_w S g 0 0 v (bare [3]) w h (by decide)
theorem rdN1 (w : World) (t : Nat) (ht : t < 2 ^ 64) : RdN (w.alloc (.cells #[.int .u64 (t : Int)] 22)) (.slice (some ⟨w.heap.size, 0, none⟩) 1 1) [t] :=
  rdN_new w #[.int .u64 (t : Int)] [t] (fun i hi => by match i, hi with | 0, _ => exact ⟨rfl, ht⟩)

set_option maxRecDepth 100000 in
set_option maxHeartbeats 3200000 in
theorem none_law_w (n : Nat) (m : Int) (w : World) : Calls Try.prog 7 #[.int .u64 (n : Int), .int .i64 m] w fun r w' => r = .returned (.bool true) ∧ Below w.heap.size w w' := by
  have hT := (show TkAt (w.alloc (.cells #[.int .u64 0, .int .u64 0, .slice none 0 0] 67)) (fun b => b = w.heap.size) w.heap.size 0 0 (.slice none 0 0) [] from ⟨heap_alloc_new w _, rfl, .inl ⟨rfl, rfl⟩, by decide, by decide, by decide⟩)
  have HB0 := Lib.hid (((Below.refl w.heap.size w).alloc (Nat.le_refl _) (.cells #[.int .u64 0, .int .u64 0, .slice none 0 0] 67)).alloc (by simp) (.cells #[.int .u64 1] 22))
  have HT0 := Lib.hid (hT.keeps ((Keeps.refl _).alloc (.cells #[.int .u64 1] 22)))
  have HN1 := Lib.hid (show RdN ((w.alloc (.cells #[.int .u64 0, .int .u64 0, .slice none 0 0] 67)).alloc (.cells #[.int .u64 1] 22)) (.slice (some ⟨(w.alloc (.cells #[.int .u64 0, .int .u64 0, .slice none 0 0] 67)).heap.size, 0, none⟩) 1 1) [1] from rdN1 _ 1 (by decide))
  rw [heap_alloc_size] at HN1
  have HN3 := Lib.hid (fun W : World => (show RdN (W.alloc (.cells #[.int .u64 3] 22)) (.slice (some ⟨W.heap.size, 0, none⟩) 1 1) [3] from rdN1 W 3 (by decide)))
  clear hT
  go_enter Try.func7, Try.ntmps7
  go_wp2_with (first
    | (refine wpList_alloc_zero rfl 67 rfl _ hz67 ?_)
    | (go_at_call 40; refine (of_w [1] _ _ HN1.out (by decide)).mono ?_; rintro r w1 ⟨v1, rfl, h1, hB⟩; obtain ⟨p1, k1, rfl⟩ := h1.form; have HT1 := Lib.hid (HT0.out.keeps hB.block); have HB1 := Lib.hid (HB0.out.trans (hB.mono HB0.out.size)); clear h1 hB HN1)
    | (go_at_call 27; refine (add_nil_w _ _ _ _).mono ?_; rintro r w2 ⟨⟨x, rfl⟩, hB⟩; have HT1 := Lib.hid (HT1.out.keeps hB.block); have HB1 := Lib.hid (HB1.out.trans (hB.mono HB1.out.size)); clear hB)
    | (go_at_call 42; refine (base_nil_w _).mono ?_; rintro r w2 ⟨rfl, hB⟩; have HT1 := Lib.hid (HT1.out.keeps hB.block); have HB1 := Lib.hid (HB1.out.trans (hB.mono HB1.out.size)); clear hB)
    | (go_at_call 23; refine (tip_nil_w _).mono ?_; rintro r w2 ⟨rfl, hB⟩; have HT1 := Lib.hid (HT1.out.keeps hB.block); have HB1 := Lib.hid (HB1.out.trans (hB.mono HB1.out.size)); clear hB)
    | (go_at_call 28; refine (termat_nil_w n _).mono ?_; rintro r w2 ⟨rfl, hB⟩; have HT1 := Lib.hid (HT1.out.keeps hB.block); have HB1 := Lib.hid (HB1.out.trans (hB.mono HB1.out.size)); clear hB)
    | (go_at_call 24; refine (meet_nil_w n n _).mono ?_; rintro r w2 ⟨rfl, hB⟩; have HT1 := Lib.hid (HT1.out.keeps hB.block); have HB1 := Lib.hid (HB1.out.trans (hB.mono HB1.out.size)); clear hB)
    | (go_at_call 25; refine (slice_nil_w n m _).mono ?_; rintro r w2 ⟨rfl, hB⟩; have HT1 := Lib.hid (HT1.out.keeps hB.block); have HB1 := Lib.hid (HB1.out.trans (hB.mono HB1.out.size)); clear hB)
    | (go_at_call 26; refine (cut_nil_w n _).mono ?_; rintro r w2 ⟨rfl, hB⟩; have HT1 := Lib.hid (HT1.out.keeps hB.block); have HB1 := Lib.hid (HB1.out.trans (hB.mono HB1.out.size)); clear hB)
    | (go_at_call 34; refine (pack_nil_w n _).mono ?_; rintro r w2 ⟨rfl, hB⟩; have HT1 := Lib.hid (HT1.out.keeps hB.block); have HB1 := Lib.hid (HB1.out.trans (hB.mono HB1.out.size)); clear hB)
    | (go_at_call 39; refine (copy_nil_w _).mono ?_; rintro r w9 ⟨rfl, hB⟩; have HT9 := Lib.hid (HT1.out.keeps hB.block); have HB9 := Lib.hid (HB1.out.trans (hB.mono HB1.out.size)); clear hB HT1 HB1))
  have HN9 := Lib.hid (HN3.out w9)
  have HT9a := Lib.hid (HT9.out.keeps ((Keeps.refl w9).alloc (.cells #[.int .u64 3] 22)))
  have HB9a := Lib.hid (HB9.out.alloc HB9.out.size (.cells #[.int .u64 3] 22))
  have hlt := HT9.out.lt
  clear HN3 HT9 HB9
  refine (of_w [3] _ _ HN9.out (by decide)).mono ?_
  rintro r w10 ⟨v3, rfl, h3, hB⟩
  obtain ⟨p3, k3, rfl⟩ := h3.form
  have HE10 := Lib.hid h3.rd
  have HT10 := Lib.hid (HT9a.out.keeps hB.block)
  have HB10 := Lib.hid (HB9a.out.trans (hB.mono HB9a.out.size))
  have hsz : (w9.alloc (.cells #[.int .u64 3] 22)).heap.size = w9.heap.size + 1 := heap_alloc_size _ _
  rw [hsz] at HE10
  clear h3 hB hsz HT9a HB9a HN9
  go_wp2_with (first
    | (go_at_call 27; refine (add3_w _ _ _ _ _ HT10.out HE10.out (fun b _ h e => by omega)).mono ?_; rintro r w11 ⟨⟨x, rfl⟩, v', ht, hto⟩; have HT11 := Lib.hid ht; have HB11 := Lib.hid (HB10.out.trans (hto.below (B := w.heap.size) HB10.out.size (fun b hb => by omega))); clear ht hto)
    | (go_at_call 23; refine (tip13_w _ _ _ _ HT11.out).mono ?_; rintro r w12 ⟨rfl, hB⟩; have HB12 := Lib.hid (HB11.out.trans (hB.mono HB11.out.size)); clear hB)
    | (go_at_call 15; refine (known24_w _).mono ?_; rintro r w13 ⟨rfl, hB⟩; have HB13 := Lib.hid (HB12.out.trans (hB.mono HB12.out.size)); clear hB))
  go_ret
  exact ⟨rfl, HB13.out⟩
end Go.Proofs.Yteellfgiejnigaa
