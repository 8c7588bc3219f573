/- The walk of the law NotesReads. -/
import Derived.Test.YteellfgiejnigaaQrU9
import Derived.Test.YteellfgiejnigaaQrX8
namespace Go.Proofs.Yteellfgiejnigaa
open Go.ChangeShapes Go.WideShapes Go.ChangeAt Go.RowKit
set_option linter.unusedVariables false
/-- These cells are this note. -/
def NoteC (W : World) (S : Foot) (x : Nt) (cx : Array Value) : Prop := ∃ lv dv, cx = ntc x lv dv ∧ NtA W S lv dv x
theorem NoteC.keeps {W W' : World} {S : Foot} {x : Nt} {cx : Array Value} (h : NoteC W S x cx) (hk : Keeps W W') : NoteC W' S x cx := by
  obtain ⟨lv, dv, e, h⟩ := h; exact ⟨lv, dv, e, h.keeps hk⟩
theorem NoteC.size {W : World} {S : Foot} {x : Nt} {cx : Array Value} (h : NoteC W S x cx) : cx.size = 9 := by
  obtain ⟨lv, dv, rfl, h⟩ := h; rfl
theorem NoteC.one {W : World} {S : Foot} {x : Nt} {cx : Array Value} (h : NoteC W S x cx) : cx.all (·.oneCell') = true := by
  obtain ⟨lv, dv, rfl, h⟩ := h
  obtain ⟨⟨p, c, rfl⟩, ⟨q, d, rfl⟩⟩ := h.forms
  simp [ntc, Value.oneCell']
theorem NoteC.of_read {w w' : World} {b : List UInt8} {r : Ending} (h : ReadP w (Rd.taken b) (Rd.fine b) r w') : ∃ cx, r = .returned (.tuple #[.agg cx, .int .i64 (Rd.fault b)]) ∧ NoteC w' (fun p => w.heap.size ≤ p) (Rd.note b) cx ∧ Below w.heap.size w w' := by
  obtain ⟨lv, dv, rfl, hn, hB⟩ := h
  exact ⟨ntc (Rd.note b) lv dv, rfl, ⟨lv, dv, rfl, hn⟩, hB⟩
theorem Rd.note_list (b : List UInt8) : (Rd.note b).list.length ≤ 1000000 := by
  unfold Rd.note
  split
  · exact Nat.le_trans (Rd.rest_le b _ _ _ _ (Rd.s4_le b)).2.1 (by decide)
  · decide
theorem noteC_same {W : World} {S1 S2 : Foot} {x : Nt} {cx cz : Array Value} (h1 : NoteC W S1 x cx) (h2 : NoteC W S2 x cz) (hn : x.list.length ≤ 1000000) :
    Calls Try.prog 20 #[.agg cx, .agg cz] W fun e w' => e = .returned (.bool true) ∧ Below W.heap.size W w' := by
  obtain ⟨lv, dv, rfl, a⟩ := h1
  obtain ⟨lv2, dv2, rfl, c⟩ := h2
  have h := rnoteSame_w x x lv dv lv2 dv2 S1 S2 W a c hn
  rw [(sameN_iff x x).2 rfl] at h
  exact h
set_option maxRecDepth 100000 in
set_option maxHeartbeats 6400000 in
theorem nreads_w (v : Value) (b : List UInt8) (w : World) (hb : RdB w v b) : Calls Try.prog 8 #[v] w fun r w' => r = .returned (.bool true) ∧ Below w.heap.size w w' := by
  have Hb := Lib.hid hb
  obtain ⟨p, c, rfl, hp⟩ := hb
  clear hp
  by_cases hlen : 100000 < b.length
  · have d1 : decide (100000 < b.length) = true := by simp [hlen]
    have d2 : decide ((100000 : Int) < (b.length : Int)) = true := by simp; omega
    clear hlen
    go_enter Try.func8, Try.ntmps8
    go_wp2_with (go_at_call 17; (with_reducible refine (known23_w _).mono ?_); rintro r w1 ⟨rfl, hB⟩; have HB := Lib.hid hB; clear hB)
    go_ret
    exact ⟨rfl, HB.out⟩
  · have d1 : decide (100000 < b.length) = false := by simp; omega
    have d2 : decide ((100000 : Int) < (b.length : Int)) = false := by simp; omega
    have hl : b.length ≤ 100000 := by omega
    have H1 := Lib.hid (OB.new w 5)
    have H2 := Lib.hid (Hb.out.keeps ((Keeps.refl w).alloc (.cells #[] 5)))
    have HNl := Lib.hid (Rd.note_list b)
    have hi4 : (b.length : Int) < (b.length : Int) + 1 := by omega
    obtain ⟨E, hE⟩ : ∃ E, Rd.fault b = E := ⟨_, rfl⟩
    have HE := Lib.hid hE
    clear hlen hE
    go_enter Try.func8, Try.ntmps8
    go_wp2_with (first
      | (refine wpList_append_bytes rfl (.tmp 12) (.tmp 13) 29 rfl hel rfl H1.out rfl H2.out (by simp; omega) (by simp) ?_; intro p1 n1 c1 w1 hn1 ho1 hg1; have HB1 := Lib.hid (((Below.refl w.heap.size w).alloc (Nat.le_refl _) _).trans (below_own H1.out hg1 (by simp))); have H77 := Lib.hid (show RdB (w1.alloc (.cells #[.int .u8 77] 5)) (.slice (some ⟨w1.heap.size, 0, none⟩) 1 1) [77] from RdB_one w1 5 77 (by decide)); have Ho1' := Lib.hid (ho1.alloc (.cells #[.int .u8 77] 5)); clear hn1 ho1 hg1)
      | (at_builtin; go_loud (
         refine wpList_append_bytes rfl (.tmp 14) (.tmp 15) 29 rfl hel rfl Ho1'.out rfl H77.out (by simp; omega) (by have := HB1.out.size; simp; omega) ?_; intro p2 n2 c2 w2 hn2 ho2 hg2
         have HB2 := Lib.hid ((HB1.out.alloc HB1.out.size _).trans (below_own Ho1'.out hg2 (by have := HB1.out.size; simp; omega)))
         simp only [List.nil_append, List.length_append, List.length_cons, List.length_nil, Nat.zero_add] at ho2 hn2
         subst hn2
         obtain ⟨g, rfl, _⟩ := ho2.some (by omega)
         have hcap : b.length + 1 ≤ c2 := (RdB.cap_le ho2.rd).1
         have HIn := Lib.hid (show RdB w2 (.slice (some ⟨g, 0, none⟩) b.length c2) b from by have h := ho2.rd.first b.length (by simp); rw [List.take_left] at h; exact h)
         have hsl0 := (fun W => run_slice_hi (P := Try.prog) 29 5 Try.underlying29 1 (show (Try.prog.info? 5).map (·.size) = some 1 by kernel_rfl) (some ⟨g, 0, none⟩) (b.length + 1) c2 b.length (by omega) W)
         have hsl1 : ∀ W, (Instr.sliceAt 29 (.slice (some ⟨g, 0, none⟩) b.length c2) none (some (.int .i64 ((b.length : Int) + 1))) none).run Try.prog W = .ok (.slice (some ⟨g, 0, none⟩) (b.length + 1) c2) W := (fun W => run_slice_hi (P := Try.prog) 29 5 Try.underlying29 1 (show (Try.prog.info? 5).map (·.size) = some 1 by kernel_rfl) (some ⟨g, 0, none⟩) b.length c2 (b.length + 1) hcap W)
         have H78 := Lib.hid (show w2.cell? ⟨g, b.length, none⟩ = some (.int .u8 77) ∧ g < w2.heap.size from by
           obtain ⟨h77, -, -, -⟩ := ho2.cell (by simp) (j := b.length) (by simp)
           have e77 : (b ++ [77]).getD b.length 0 = (77 : UInt8) := by simp [List.getD]
           rw [e77] at h77
           exact ⟨h77, block_lt_of_cell h77⟩)
         have Hb2 := Lib.hid (Hb.out.below HB2.out)
         clear hcap ho2 hg2))
      | (go_at_call 43; (with_reducible refine (read43_w _ b _ HIn.out (by omega)).mono ?_)
         intro r w3 hr
         obtain ⟨cx, rfl, hx, hB⟩ := NoteC.of_read hr
         rw [HE.out]
         have HZ3 := Lib.hid (heap_alloc_new w3 (.cells zN 31))
         obtain ⟨W4, hW4⟩ : ∃ W4, w3.alloc (.cells cx 31) = W4 := ⟨_, rfl⟩
         have HW4 := Lib.hid hW4
         have hB4 : Below w2.heap.size w2 W4 := by rw [← hW4]; exact hB.alloc hB.size _
         have HB4 := Lib.hid (HB2.out.trans (hB4.mono HB2.out.size))
         have HIn4 := Lib.hid (HIn.out.keeps hB4.block)
         have Hb4 := Lib.hid (Hb2.out.keeps hB4.block)
         have H784 := Lib.hid (And.intro ((hB4.cell (p := ⟨g, b.length, none⟩) H78.out.2).trans H78.out.1) (Nat.lt_of_lt_of_le H78.out.2 hB4.size))
         have HX4 := Lib.hid (show NcAt W4 w3.heap.size cx from by rw [← hW4]; exact NcAt.new w3 cx)
         have HC4 := Lib.hid (hx.keeps (show Keeps w3 W4 from by rw [← hW4]; exact (Keeps.refl w3).alloc _))
         have hsx := HC4.out.size
         have Hone3 := Lib.hid hx.one
         clear hr hB hB4 hW4 hx)
      | (go_at_call 44; (with_reducible refine (read44_w _ b _ Hb4.out (by omega)).mono ?_)
         intro r w5 hr
         obtain ⟨cz, rfl, hz, hB⟩ := NoteC.of_read hr
         rw [HE.out]
         have HZ5 := Lib.hid (heap_alloc_new w5 (.cells zN 31))
         obtain ⟨W6, hW6⟩ : ∃ W6, w5.alloc (.cells cz 31) = W6 := ⟨_, rfl⟩
         have HW6 := Lib.hid hW6
         have hB6 : Below W4.heap.size W4 W6 := by rw [← hW6]; exact hB.alloc hB.size _
         have HB6 := Lib.hid (HB4.out.trans (hB6.mono HB4.out.size))
         have HIn6 := Lib.hid (HIn4.out.keeps hB6.block)
         have Hb6 := Lib.hid (Hb4.out.keeps hB6.block)
         have H786 := Lib.hid (And.intro ((hB6.cell (p := ⟨g, b.length, none⟩) H784.out.2).trans H784.out.1) (Nat.lt_of_lt_of_le H784.out.2 hB6.size))
         have HX6 := Lib.hid (HX4.out.keeps hB6.block)
         have HY6 := Lib.hid (show NcAt W6 w5.heap.size cz from by rw [← hW6]; exact NcAt.new w5 cz)
         have HS6 := Lib.hid (noteC_same (HC4.out.keeps (show Keeps W4 W6 from hB6.block)) (hz.keeps (show Keeps w5 W6 from by rw [← hW6]; exact (Keeps.refl w5).alloc _)) HNl.out)
         have hsz := hz.size
         have Hone5 := Lib.hid hz.one
         clear hr hB hB6 hW6 hz)
      | (refine wpList_alloc_zero rfl 31 rfl _ hz31 ?_)
      | (refine wpList_store_rowTo rfl 31 (.tmp 4) (.tmp 23) rfl rfl _ cx rfl rfl 31 zN HZ3.out (show _ = some cx.size by rw [hsx]; kernel_rfl) (by rw [hsx]; rfl) Hone3.out ?_; rw [alloc_setRow, HW4.out])
      | (refine wpList_store_rowTo rfl 31 (.tmp 6) (.tmp 28) rfl rfl _ cz rfl rfl 31 zN HZ5.out (show _ = some cz.size by rw [hsz]; kernel_rfl) (by rw [hsz]; rfl) Hone5.out ?_; rw [alloc_setRow, HW6.out])
      | (refine wpList_load_nc rfl (.tmp 4) rfl rfl HX6.out hsx ?_)
      | (refine wpList_load_nc rfl (.tmp 6) rfl rfl HY6.out hsz ?_)
      | (go_at_call 20; (with_reducible refine (HS6.out).mono ?_); rintro r w7 ⟨rfl, hB⟩
         have HB7 := Lib.hid (HB6.out.trans (hB.mono HB6.out.size))
         have hc1 := run_convert_str (P := Try.prog) (HIn6.out.keeps hB.block) 29 5 9 Try.underlying29 Try.underlying5 Try.underlying9
         have hc2 := run_convert_str (P := Try.prog) (Hb6.out.keeps hB.block) 29 5 9 Try.underlying29 Try.underlying5 Try.underlying9
         have h77 := (hB.cell (p := ⟨g, b.length, none⟩) H786.out.2).trans H786.out.1
         clear hB)
      | (go_at_call 17; (with_reducible refine (known23_w _).mono ?_); rintro r w8 ⟨rfl, hB⟩; have HB8 := Lib.hid (HB7.out.trans (hB.mono HB7.out.size)); clear hB))
    go_ret
    exact ⟨rfl, HB8.out⟩
end Go.Proofs.Yteellfgiejnigaa
