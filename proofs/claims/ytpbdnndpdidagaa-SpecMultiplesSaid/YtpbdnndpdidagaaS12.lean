/- The small data of the laws, and what is known of them. -/
import Derived.Test.YtpbdnndpdidagaaS10
import Derived.Test.YtpbdnndpdidagaaS11
namespace Go.Proofs.Ytpbdnndpdidagaa
open Go.ChangeShapes Go.WideShapes Go.ChangeAt Go.RowKit
set_option linter.unusedVariables false

namespace Sp
def sm0 : Sp := ⟨1, 1, 5, 10, 100, 1000, fun _ => 0, 0, 9, 1000⟩
def sm1 : Sp := ⟨1, 1, 5, 10, 100, 1000, fun i => if i = 0 then 50 else 0, 0, 9, 1000⟩
def sm : Sp := ⟨1, 1, 5, 10, 100, 1000, fun i => if i = 0 then 50 else if i = 1 then -50 else 0, 0, 9, 1000⟩
theorem sm_ok : sm.ok := by
  have h : ∀ x : Int, -1000 ≤ x → x ≤ 1000 → i64 x := fun x h1 h2 => by unfold i64; omega
  refine ⟨by decide, by decide, h _ (by decide) (by decide), h _ (by decide) (by decide), h _ (by decide) (by decide), h _ (by decide) (by decide), fun i => ?_, h _ (by decide) (by decide), by decide, h _ (by decide) (by decide)⟩
  show i64 (if i = 0 then 50 else if i = 1 then -50 else 0)
  split
  · exact h _ (by decide) (by decide)
  · split
    · exact h _ (by decide) (by decide)
    · exact h _ (by decide) (by decide)
theorem sm_may : sm.mayB = true := by decide +kernel
theorem sm_price : sm.isPrice 1001 = false := by decide +kernel
end Sp
theorem SpAt.put {w : World} {B : Nat} {s t : Sp} (h : SpAt w B s) (i : Nat) (v : Value) (hv : s.cells.setIfInBounds i v = t.cells) : SpAt (w.setCell ⟨B, i, none⟩ v) B t := by
  unfold SpAt at *
  simp only [World.setCell, Array.getElem?_modify, h, if_true, Option.map_some]
  rw [← hv]
  rfl
theorem small_back_grow {w W : World} {B : Nat} {cs : Array Value} (h : Below w.heap.size w W) (hB : w.heap.size ≤ B) : Below w.heap.size w (W.setRow B cs) :=
  h.trans ⟨rfl, rfl, rfl, by simp [World.setRow], fun k hk => setRow_other _ _ _ _ (by omega)⟩
theorem setCell_grow {w W : World} {B i : Nat} {v : Value} (h : Below w.heap.size w W) (hB : w.heap.size ≤ B) : Below w.heap.size w (W.setCell ⟨B, i, none⟩ v) :=
  h.grown (Lib.grownBy_setCell W B i v) h.size (fun k e => by cases e; exact hB)

set_option maxRecDepth 100000 in
set_option maxHeartbeats 1600000 in
theorem sm_in_w (z s0 s1 s2 : Sp) (hz : ((Try.prog.info? 66).bind (·.zero)).map Value.cells = some z.cells)
    (hb : Try.prog.built 66 [(0, .int .u32 1), (1, .int .u8 1), (2, .int .i64 5), (3, .int .i64 10), (4, .int .i64 100), (5, .int .i64 1000), (8, .int .u32 9), (9, .int .i64 1000)] = some s0.cells)
    (h1 : s0.cells.setIfInBounds 6 (.int .i64 50) = s1.cells) (h2 : s1.cells.setIfInBounds 7 (.int .i64 (-50)) = s2.cells) (w : World) :
    Calls Try.prog 63 #[] w fun r w' => r = .returned (.agg s2.cells) ∧ Below w.heap.size w w' := by
  have hB0 : Below w.heap.size w ((w.alloc (.cells z.cells 66)).alloc (.cells z.cells 66)) := ((Below.refl w.heap.size w).alloc (Nat.le_refl _) (.cells z.cells 66)).alloc (by simp) (.cells z.cells 66)
  have hR : SpAt ((w.alloc (.cells z.cells 66)).alloc (.cells z.cells 66)) w.heap.size z := (SpAt.new w z).kept (World.grownBy_alloc (w.alloc (.cells z.cells 66)) (.cells z.cells 66) none) (by simp)
  have hN : SpAt ((w.alloc (.cells z.cells 66)).alloc (.cells z.cells 66)) (w.heap.size + 1) z := by
    have := SpAt.new (w.alloc (.cells z.cells 66)) z
    rwa [heap_alloc_size] at this
  have hR1 : SpAt (((w.alloc (.cells z.cells 66)).alloc (.cells z.cells 66)).setRow (w.heap.size + 1) s0.cells) w.heap.size z := by
    unfold SpAt at *; rw [setRow_other _ _ _ _ (by omega)]; exact hR
  have hN1 : SpAt (((w.alloc (.cells z.cells 66)).alloc (.cells z.cells 66)).setRow (w.heap.size + 1) s0.cells) (w.heap.size + 1) s0 := setRow_heap _ _ _ _ _ _ hN
  have hB1 := small_back_grow (cs := s0.cells) hB0 (Nat.le_succ w.heap.size)
  have HN := Lib.hid hN
  obtain ⟨W1, hW1⟩ : ∃ W1, ((w.alloc (.cells z.cells 66)).alloc (.cells z.cells 66)).setRow (w.heap.size + 1) s0.cells = W1 := ⟨_, rfl⟩
  rw [show w.heap.size.succ = w.heap.size + 1 from rfl] at hB1
  rw [hW1] at hR1 hN1 hB1
  have HW1 := Lib.hid hW1
  have HZ := Lib.hid hz
  have Hb := Lib.hid hb
  clear hB0 hR hN hW1 hz hb
  have hN2 := hN1.put 6 (.int .i64 50) h1
  have hR2 := hR1.kept (Lib.grownBy_setCell _ (w.heap.size + 1) 6 (.int .i64 50)) (by simp)
  have hB2 := setCell_grow (i := 6) (v := .int .i64 50) hB1 (Nat.le_succ w.heap.size)
  have hN3 := hN2.put 7 (.int .i64 (-50)) h2
  have hR3 := hR2.kept (Lib.grownBy_setCell _ (w.heap.size + 1) 7 (.int .i64 (-50))) (by simp)
  have hB3 := setCell_grow (i := 7) (v := .int .i64 (-50)) hB2 (Nat.le_succ w.heap.size)
  obtain ⟨old1, hc1⟩ := hN1.cell_some 6 (by omega)
  have hf1 := hN1.frozen 6
  obtain ⟨old2, hc2⟩ := hN2.cell_some 7 (by omega)
  have hf2 := hN2.frozen 7
  have HN3 := Lib.hid hN3
  have HR3 := Lib.hid hR3
  have HB3 := Lib.hid hB3
  clear hB1 hN1 hR1 hN2 hR2 hB2 hN3 hR3 hB3 h1 h2
  go_enter Try.func63, Try.ntmps63
  go_wp2_with (first
    | (refine wpList_alloc_zero rfl 66 rfl _ HZ.out ?_)
    | (refine wpList_buildTo rfl 66 _ rfl (some 2) rfl s0.cells (Eq.trans (b := Try.prog.built 66 [(0, .int .u32 1), (1, .int .u8 1), (2, .int .i64 5), (3, .int .i64 10), (4, .int .i64 100), (5, .int .i64 1000), (8, .int .u32 9), (9, .int .i64 1000)]) (by kernel_rfl) Hb.out) ?_)
    | (refine wpList_store_rowTo rfl 66 (.tmp 1) (.tmp 2) rfl rfl (w.heap.size + 1) s0.cells (by first | rfl | exact congrArg (fun k => Value.pointer (some ⟨k, 0, none⟩)) (heap_alloc_size w (.cells z.cells 66))) rfl 66 z.cells HN.out (show _ = some 25 by kernel_rfl) rfl (cells_one _) ?_; rw [HW1.out])
    | (refine wpList_load_row rfl 66 (.tmp 1) rfl _ rfl _ _ _ _ HN3.out Try.underlying66 rfl (show _ = some 25 by kernel_rfl) ?_)
    | (refine wpList_store_rowTo rfl 66 (.tmp 0) (.tmp 7) rfl rfl _ s2.cells rfl rfl 66 z.cells HR3.out (show _ = some 25 by kernel_rfl) rfl (cells_one _) ?_))
  have hres := setRow_heap _ w.heap.size _ s2.cells _ _ HR3.out
  refine bodyPost_ret (v := .agg s2.cells) (results_cell_row rfl _ _ w.heap.size 66 _ _ _ rfl hres Try.underlying66 rfl (show _ = some 25 by kernel_rfl)) rfl ?_
  exact ⟨rfl, small_back_grow HB3.out (Nat.le_refl _)⟩
theorem sm_w (w : World) : Calls Try.prog 63 #[] w fun r w' => r = .returned (.agg Sp.sm.cells) ∧ Below w.heap.size w w' :=
  sm_in_w Sp.zero Sp.sm0 Sp.sm1 Sp.sm hz66 (by kernel_rfl) rfl rfl w
end Go.Proofs.Ytpbdnndpdidagaa
