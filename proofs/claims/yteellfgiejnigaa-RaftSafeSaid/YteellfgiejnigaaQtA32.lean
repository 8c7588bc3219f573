/- RaftSafe: HU. -/
import Derived.Test.YteellfgiejnigaaQtA00
import Derived.Test.YteellfgiejnigaaQtA27
import Derived.Test.YteellfgiejnigaaQtA29
namespace Go.Proofs.Yteellfgiejnigaa
open Go.ChangeShapes Go.WideShapes Go.ChangeAt Go.RowKit
set_option linter.unusedVariables false
theorem note_cells {w w2 : World} {a0 a1 a2 a3 a4 a5 a6 a7 a8 : Value} (hB : Below (w.alloc (.cells #[a0, a1, a2, a3, a4, a5, a6, a7, a8] 31)).heap.size (w.alloc (.cells #[a0, a1, a2, a3, a4, a5, a6, a7, a8] 31)) w2) (cs : Array Value) :
 (fun W : World => W.cell? ⟨w.heap.size, 0, none⟩ = some a0 ∧ W.cell? ⟨w.heap.size, 2, none⟩ = some a2 ∧ W.cell? ⟨w.heap.size, 3, none⟩ = some a3 ∧ W.cell? ⟨w.heap.size, 4, none⟩ = some a4 ∧ W.cell? ⟨w.heap.size, 5, none⟩ = some a5 ∧ W.cell? ⟨w.heap.size, 6, none⟩ = some a6 ∧ W.cell? ⟨w.heap.size, 7, none⟩ = some a7 ∧ W.cell? ⟨w.heap.size, 8, none⟩ = some a8) (w2.alloc (.cells cs 112)) := by
 have h : ∀ j, (w2.alloc (.cells cs 112)).cell? ⟨w.heap.size, j, none⟩ = #[a0, a1, a2, a3, a4, a5, a6, a7, a8][j]? := fun j => ((hB.alloc hB.size (.cells cs 112)).cell (p := ⟨w.heap.size, j, none⟩) (by simp)).trans (cell_of_row _ _ _ _ _ _ (heap_alloc_new w _))
 exact ⟨h 0, h 2, h 3, h 4, h 5, h 6, h 7, h 8⟩
set_option maxRecDepth 100000 in
set_option maxHeartbeats 1600000 in
theorem mayt_1 (t1 r1 i1 a1 : Nat) (pl pd : Option Addr) (cl cd : Nat) (S1 : Foot) (w : World) (h1 : EsR w S1 (.slice pl 0 cl) []) (hi : i1 ≤ 4611686018427387904) :
 Calls Try.prog 46 #[.agg #[.int .u8 1, .int .u64 (t1 : Int), .int .u64 (r1 : Int), .int .u64 (i1 : Int), .int .u64 (a1 : Int), .int .u64 0, .bool false, .slice pl 0 cl, .slice pd 0 cd]] w fun e w' => e = .returned (.bool true) ∧ Below w.heap.size w w' := by
 have HB0 := zh ((Below.refl w.heap.size w).alloc (Nat.le_refl _) (.cells #[.int .u8 1, .int .u64 (t1 : Int), .int .u64 (r1 : Int), .int .u64 (i1 : Int), .int .u64 (a1 : Int), .int .u64 0, .bool false, .slice pl 0 cl, .slice pd 0 cd] 31))
 have HL1 := zh (h1.keeps HB0.out.block)
 have HF := zh (fields1_w (w.alloc (.cells #[.int .u8 1, .int .u64 (t1 : Int), .int .u64 (r1 : Int), .int .u64 (i1 : Int), .int .u64 (a1 : Int), .int .u64 0, .bool false, .slice pl 0 cl, .slice pd 0 cd] 31)))
 have HC := zh (fun (W : World) (hW : EsR W S1 (.slice pl 0 cl) []) => containsFunc_w S1 _ [] W hW (by decide))
 rw [show anyLong [] = false from rfl] at HC
 have pi1a : decide (4611686018427387904 < i1) = false := by simp; omega
 have pi1b : decide ((4611686018427387904 : Int) < (i1 : Int)) = false := by simp; omega
 clear h1
 go_enter Try.func46, Try.ntmps46
 go_wp2_with (first
  | (go_at_call 68; go_loud (refine (HF.out).mono ?_; rintro e w2 ⟨rfl, hB⟩; have HB2 := zh (HB0.out.trans (hB.mono HB0.out.size)); have HL2 := zh (HL1.out.keeps hB.block); obtain ⟨x0, x2, x3, x4, x5, x6, x7, x8⟩ := note_cells hB #[.bool true, .bool true, .bool true, .bool false, .bool false, .bool false, .bool false]; have HB2b := zh (HB2.out.alloc HB2.out.size (.cells #[.bool true, .bool true, .bool true, .bool false, .bool false, .bool false, .bool false] 112)); have HL2b := zh (HL2.out.keeps ((Keeps.refl w2).alloc (.cells #[.bool true, .bool true, .bool true, .bool false, .bool false, .bool false, .bool false] 112))); clear hB HF))
  | (refine wpList_alloc_zero rfl 112 rfl _ hz112 ?_)
  | (refine wpList_store_rowTo rfl 112 (.tmp 3) (.tmp 6) rfl rfl _ #[.bool true, .bool true, .bool true, .bool false, .bool false, .bool false, .bool false] rfl rfl 112 _ (heap_alloc_new w2 _) (show _ = some 7 by kernel_rfl) rfl (by simp [Value.oneCell']) ?_; rw [alloc_setRow])
  | (go_at_call 92; refine (HC.out _ HL2b.out).mono ?_; rintro e w4 ⟨rfl, hB⟩; have HB4 := zh (HB2b.out.trans (hB.mono HB2b.out.size)); clear hB HC))
 go_ret
 exact ⟨rfl, HB4.out⟩
set_option maxRecDepth 100000 in
set_option maxHeartbeats 1600000 in
theorem mayt_2 (t1 r1 : Nat) (y1 : Bool) (pl pd : Option Addr) (cl cd : Nat) (S1 : Foot) (w : World) (h1 : EsR w S1 (.slice pl 0 cl) []) :
 Calls Try.prog 46 #[.agg #[.int .u8 2, .int .u64 (t1 : Int), .int .u64 (r1 : Int), .int .u64 0, .int .u64 0, .int .u64 0, .bool y1, .slice pl 0 cl, .slice pd 0 cd]] w fun e w' => e = .returned (.bool true) ∧ Below w.heap.size w w' := by
 have HB0 := zh ((Below.refl w.heap.size w).alloc (Nat.le_refl _) (.cells #[.int .u8 2, .int .u64 (t1 : Int), .int .u64 (r1 : Int), .int .u64 0, .int .u64 0, .int .u64 0, .bool y1, .slice pl 0 cl, .slice pd 0 cd] 31))
 have HL1 := zh (h1.keeps HB0.out.block)
 have HF := zh (fields2_w (w.alloc (.cells #[.int .u8 2, .int .u64 (t1 : Int), .int .u64 (r1 : Int), .int .u64 0, .int .u64 0, .int .u64 0, .bool y1, .slice pl 0 cl, .slice pd 0 cd] 31)))
 have HC := zh (fun (W : World) (hW : EsR W S1 (.slice pl 0 cl) []) => containsFunc_w S1 _ [] W hW (by decide))
 rw [show anyLong [] = false from rfl] at HC
 clear h1
 go_enter Try.func46, Try.ntmps46
 go_wp2_with (first
  | (go_at_call 68; go_loud (refine (HF.out).mono ?_; rintro e w2 ⟨rfl, hB⟩; have HB2 := zh (HB0.out.trans (hB.mono HB0.out.size)); have HL2 := zh (HL1.out.keeps hB.block); obtain ⟨x0, x2, x3, x4, x5, x6, x7, x8⟩ := note_cells hB #[.bool true, .bool false, .bool false, .bool false, .bool true, .bool false, .bool false]; have HB2b := zh (HB2.out.alloc HB2.out.size (.cells #[.bool true, .bool false, .bool false, .bool false, .bool true, .bool false, .bool false] 112)); have HL2b := zh (HL2.out.keeps ((Keeps.refl w2).alloc (.cells #[.bool true, .bool false, .bool false, .bool false, .bool true, .bool false, .bool false] 112))); clear hB HF))
  | (refine wpList_alloc_zero rfl 112 rfl _ hz112 ?_)
  | (refine wpList_store_rowTo rfl 112 (.tmp 3) (.tmp 6) rfl rfl _ #[.bool true, .bool false, .bool false, .bool false, .bool true, .bool false, .bool false] rfl rfl 112 _ (heap_alloc_new w2 _) (show _ = some 7 by kernel_rfl) rfl (by simp [Value.oneCell']) ?_; rw [alloc_setRow])
  | (go_at_call 92; refine (HC.out _ HL2b.out).mono ?_; rintro e w4 ⟨rfl, hB⟩; have HB4 := zh (HB2b.out.trans (hB.mono HB2b.out.size)); clear hB HC))
 go_ret
 exact ⟨rfl, HB4.out⟩
set_option maxRecDepth 100000 in
set_option maxHeartbeats 1600000 in
theorem mayt_3 (t1 i1 a1 : Nat) (pl pd : Option Addr) (cl cd : Nat) (S1 : Foot) (w : World) (h1 : EsR w S1 (.slice pl 0 cl) []) (hi : i1 ≤ 4611686018427387904) :
 Calls Try.prog 46 #[.agg #[.int .u8 3, .int .u64 (t1 : Int), .int .u64 0, .int .u64 (i1 : Int), .int .u64 (a1 : Int), .int .u64 0, .bool false, .slice pl 0 cl, .slice pd 0 cd]] w fun e w' => e = .returned (.bool true) ∧ Below w.heap.size w w' := by
 have HB0 := zh ((Below.refl w.heap.size w).alloc (Nat.le_refl _) (.cells #[.int .u8 3, .int .u64 (t1 : Int), .int .u64 0, .int .u64 (i1 : Int), .int .u64 (a1 : Int), .int .u64 0, .bool false, .slice pl 0 cl, .slice pd 0 cd] 31))
 have HL1 := zh (h1.keeps HB0.out.block)
 have HF := zh (fields3_w (w.alloc (.cells #[.int .u8 3, .int .u64 (t1 : Int), .int .u64 0, .int .u64 (i1 : Int), .int .u64 (a1 : Int), .int .u64 0, .bool false, .slice pl 0 cl, .slice pd 0 cd] 31)))
 have HC := zh (fun (W : World) (hW : EsR W S1 (.slice pl 0 cl) []) => containsFunc_w S1 _ [] W hW (by decide))
 rw [show anyLong [] = false from rfl] at HC
 have pi1a : decide (4611686018427387904 < i1) = false := by simp; omega
 have pi1b : decide ((4611686018427387904 : Int) < (i1 : Int)) = false := by simp; omega
 clear h1
 go_enter Try.func46, Try.ntmps46
 go_wp2_with (first
  | (go_at_call 68; go_loud (refine (HF.out).mono ?_; rintro e w2 ⟨rfl, hB⟩; have HB2 := zh (HB0.out.trans (hB.mono HB0.out.size)); have HL2 := zh (HL1.out.keeps hB.block); obtain ⟨x0, x2, x3, x4, x5, x6, x7, x8⟩ := note_cells hB #[.bool false, .bool true, .bool true, .bool false, .bool false, .bool false, .bool false]; have HB2b := zh (HB2.out.alloc HB2.out.size (.cells #[.bool false, .bool true, .bool true, .bool false, .bool false, .bool false, .bool false] 112)); have HL2b := zh (HL2.out.keeps ((Keeps.refl w2).alloc (.cells #[.bool false, .bool true, .bool true, .bool false, .bool false, .bool false, .bool false] 112))); clear hB HF))
  | (refine wpList_alloc_zero rfl 112 rfl _ hz112 ?_)
  | (refine wpList_store_rowTo rfl 112 (.tmp 3) (.tmp 6) rfl rfl _ #[.bool false, .bool true, .bool true, .bool false, .bool false, .bool false, .bool false] rfl rfl 112 _ (heap_alloc_new w2 _) (show _ = some 7 by kernel_rfl) rfl (by simp [Value.oneCell']) ?_; rw [alloc_setRow])
  | (go_at_call 92; refine (HC.out _ HL2b.out).mono ?_; rintro e w4 ⟨rfl, hB⟩; have HB4 := zh (HB2b.out.trans (hB.mono HB2b.out.size)); clear hB HC))
 go_ret
 exact ⟨rfl, HB4.out⟩
set_option maxRecDepth 100000 in
set_option maxHeartbeats 1600000 in
theorem mayt_4 (t1 : Nat) (y1 : Bool) (pl pd : Option Addr) (cl cd : Nat) (S1 : Foot) (w : World) (h1 : EsR w S1 (.slice pl 0 cl) []) :
 Calls Try.prog 46 #[.agg #[.int .u8 4, .int .u64 (t1 : Int), .int .u64 0, .int .u64 0, .int .u64 0, .int .u64 0, .bool y1, .slice pl 0 cl, .slice pd 0 cd]] w fun e w' => e = .returned (.bool true) ∧ Below w.heap.size w w' := by
 have HB0 := zh ((Below.refl w.heap.size w).alloc (Nat.le_refl _) (.cells #[.int .u8 4, .int .u64 (t1 : Int), .int .u64 0, .int .u64 0, .int .u64 0, .int .u64 0, .bool y1, .slice pl 0 cl, .slice pd 0 cd] 31))
 have HL1 := zh (h1.keeps HB0.out.block)
 have HF := zh (fields4_w (w.alloc (.cells #[.int .u8 4, .int .u64 (t1 : Int), .int .u64 0, .int .u64 0, .int .u64 0, .int .u64 0, .bool y1, .slice pl 0 cl, .slice pd 0 cd] 31)))
 have HC := zh (fun (W : World) (hW : EsR W S1 (.slice pl 0 cl) []) => containsFunc_w S1 _ [] W hW (by decide))
 rw [show anyLong [] = false from rfl] at HC
 clear h1
 go_enter Try.func46, Try.ntmps46
 go_wp2_with (first
  | (go_at_call 68; go_loud (refine (HF.out).mono ?_; rintro e w2 ⟨rfl, hB⟩; have HB2 := zh (HB0.out.trans (hB.mono HB0.out.size)); have HL2 := zh (HL1.out.keeps hB.block); obtain ⟨x0, x2, x3, x4, x5, x6, x7, x8⟩ := note_cells hB #[.bool false, .bool false, .bool false, .bool false, .bool true, .bool false, .bool false]; have HB2b := zh (HB2.out.alloc HB2.out.size (.cells #[.bool false, .bool false, .bool false, .bool false, .bool true, .bool false, .bool false] 112)); have HL2b := zh (HL2.out.keeps ((Keeps.refl w2).alloc (.cells #[.bool false, .bool false, .bool false, .bool false, .bool true, .bool false, .bool false] 112))); clear hB HF))
  | (refine wpList_alloc_zero rfl 112 rfl _ hz112 ?_)
  | (refine wpList_store_rowTo rfl 112 (.tmp 3) (.tmp 6) rfl rfl _ #[.bool false, .bool false, .bool false, .bool false, .bool true, .bool false, .bool false] rfl rfl 112 _ (heap_alloc_new w2 _) (show _ = some 7 by kernel_rfl) rfl (by simp [Value.oneCell']) ?_; rw [alloc_setRow])
  | (go_at_call 92; refine (HC.out _ HL2b.out).mono ?_; rintro e w4 ⟨rfl, hB⟩; have HB4 := zh (HB2b.out.trans (hB.mono HB2b.out.size)); clear hB HC))
 go_ret
 exact ⟨rfl, HB4.out⟩
set_option maxRecDepth 100000 in
set_option maxHeartbeats 1600000 in
theorem mayt_5 (t1 i1 a1 c1 : Nat) (L1 : List Ent) (pl pd : Option Addr) (cl cd : Nat) (S1 : Foot) (w : World) (h1 : EsR w S1 (.slice pl L1.length cl) L1) (hi : i1 ≤ 4611686018427387904) (hc : c1 ≤ 4611686018427387904) (hl : L1.length ≤ 16) (hal : anyLong L1 = false) :
 Calls Try.prog 46 #[.agg #[.int .u8 5, .int .u64 (t1 : Int), .int .u64 0, .int .u64 (i1 : Int), .int .u64 (a1 : Int), .int .u64 (c1 : Int), .bool false, .slice pl L1.length cl, .slice pd 0 cd]] w fun e w' => e = .returned (.bool true) ∧ Below w.heap.size w w' := by
 have HB0 := zh ((Below.refl w.heap.size w).alloc (Nat.le_refl _) (.cells #[.int .u8 5, .int .u64 (t1 : Int), .int .u64 0, .int .u64 (i1 : Int), .int .u64 (a1 : Int), .int .u64 (c1 : Int), .bool false, .slice pl L1.length cl, .slice pd 0 cd] 31))
 have HL1 := zh (h1.keeps HB0.out.block)
 have HF := zh (fields5_w (w.alloc (.cells #[.int .u8 5, .int .u64 (t1 : Int), .int .u64 0, .int .u64 (i1 : Int), .int .u64 (a1 : Int), .int .u64 (c1 : Int), .bool false, .slice pl L1.length cl, .slice pd 0 cd] 31)))
 have HC := zh (fun (W : World) (hW : EsR W S1 (.slice pl L1.length cl) L1) => containsFunc_w S1 _ L1 W hW (by omega))
 rw [hal] at HC
 have pi1a : decide (4611686018427387904 < i1) = false := by simp; omega
 have pi1b : decide ((4611686018427387904 : Int) < (i1 : Int)) = false := by simp; omega
 have pc1a : decide (4611686018427387904 < c1) = false := by simp; omega
 have pc1b : decide ((4611686018427387904 : Int) < (c1 : Int)) = false := by simp; omega
 have pl3 : decide (L1.length ≤ 16) = true := by simpa using hl
 have pl4 : decide ((L1.length : Int) ≤ 16) = true := by simp; omega
 clear hl hal
 clear h1
 go_enter Try.func46, Try.ntmps46
 go_wp2_with (first
  | (go_at_call 68; go_loud (refine (HF.out).mono ?_; rintro e w2 ⟨rfl, hB⟩; have HB2 := zh (HB0.out.trans (hB.mono HB0.out.size)); have HL2 := zh (HL1.out.keeps hB.block); obtain ⟨x0, x2, x3, x4, x5, x6, x7, x8⟩ := note_cells hB #[.bool false, .bool true, .bool true, .bool true, .bool false, .bool true, .bool false]; have HB2b := zh (HB2.out.alloc HB2.out.size (.cells #[.bool false, .bool true, .bool true, .bool true, .bool false, .bool true, .bool false] 112)); have HL2b := zh (HL2.out.keeps ((Keeps.refl w2).alloc (.cells #[.bool false, .bool true, .bool true, .bool true, .bool false, .bool true, .bool false] 112))); clear hB HF))
  | (refine wpList_alloc_zero rfl 112 rfl _ hz112 ?_)
  | (refine wpList_store_rowTo rfl 112 (.tmp 3) (.tmp 6) rfl rfl _ #[.bool false, .bool true, .bool true, .bool true, .bool false, .bool true, .bool false] rfl rfl 112 _ (heap_alloc_new w2 _) (show _ = some 7 by kernel_rfl) rfl (by simp [Value.oneCell']) ?_; rw [alloc_setRow])
  | (go_at_call 92; refine (HC.out _ HL2b.out).mono ?_; rintro e w4 ⟨rfl, hB⟩; have HB4 := zh (HB2b.out.trans (hB.mono HB2b.out.size)); clear hB HC))
 go_ret
 exact ⟨rfl, HB4.out⟩
set_option maxRecDepth 100000 in
set_option maxHeartbeats 1600000 in
theorem mayt_6 (t1 i1 : Nat) (y1 : Bool) (pl pd : Option Addr) (cl cd : Nat) (S1 : Foot) (w : World) (h1 : EsR w S1 (.slice pl 0 cl) []) (hi : i1 ≤ 4611686018427387904) :
 Calls Try.prog 46 #[.agg #[.int .u8 6, .int .u64 (t1 : Int), .int .u64 0, .int .u64 (i1 : Int), .int .u64 0, .int .u64 0, .bool y1, .slice pl 0 cl, .slice pd 0 cd]] w fun e w' => e = .returned (.bool true) ∧ Below w.heap.size w w' := by
 have HB0 := zh ((Below.refl w.heap.size w).alloc (Nat.le_refl _) (.cells #[.int .u8 6, .int .u64 (t1 : Int), .int .u64 0, .int .u64 (i1 : Int), .int .u64 0, .int .u64 0, .bool y1, .slice pl 0 cl, .slice pd 0 cd] 31))
 have HL1 := zh (h1.keeps HB0.out.block)
 have HF := zh (fields6_w (w.alloc (.cells #[.int .u8 6, .int .u64 (t1 : Int), .int .u64 0, .int .u64 (i1 : Int), .int .u64 0, .int .u64 0, .bool y1, .slice pl 0 cl, .slice pd 0 cd] 31)))
 have HC := zh (fun (W : World) (hW : EsR W S1 (.slice pl 0 cl) []) => containsFunc_w S1 _ [] W hW (by decide))
 rw [show anyLong [] = false from rfl] at HC
 have pi1a : decide (4611686018427387904 < i1) = false := by simp; omega
 have pi1b : decide ((4611686018427387904 : Int) < (i1 : Int)) = false := by simp; omega
 clear h1
 go_enter Try.func46, Try.ntmps46
 go_wp2_with (first
  | (go_at_call 68; go_loud (refine (HF.out).mono ?_; rintro e w2 ⟨rfl, hB⟩; have HB2 := zh (HB0.out.trans (hB.mono HB0.out.size)); have HL2 := zh (HL1.out.keeps hB.block); obtain ⟨x0, x2, x3, x4, x5, x6, x7, x8⟩ := note_cells hB #[.bool false, .bool true, .bool false, .bool false, .bool true, .bool false, .bool false]; have HB2b := zh (HB2.out.alloc HB2.out.size (.cells #[.bool false, .bool true, .bool false, .bool false, .bool true, .bool false, .bool false] 112)); have HL2b := zh (HL2.out.keeps ((Keeps.refl w2).alloc (.cells #[.bool false, .bool true, .bool false, .bool false, .bool true, .bool false, .bool false] 112))); clear hB HF))
  | (refine wpList_alloc_zero rfl 112 rfl _ hz112 ?_)
  | (refine wpList_store_rowTo rfl 112 (.tmp 3) (.tmp 6) rfl rfl _ #[.bool false, .bool true, .bool false, .bool false, .bool true, .bool false, .bool false] rfl rfl 112 _ (heap_alloc_new w2 _) (show _ = some 7 by kernel_rfl) rfl (by simp [Value.oneCell']) ?_; rw [alloc_setRow])
  | (go_at_call 92; refine (HC.out _ HL2b.out).mono ?_; rintro e w4 ⟨rfl, hB⟩; have HB4 := zh (HB2b.out.trans (hB.mono HB2b.out.size)); clear hB HC))
 go_ret
 exact ⟨rfl, HB4.out⟩
set_option maxRecDepth 100000 in
set_option maxHeartbeats 1600000 in
theorem mayt_7 (t1 i1 a1 : Nat) (pl pd : Option Addr) (cl cd : Nat) (S1 : Foot) (w : World) (h1 : EsR w S1 (.slice pl 0 cl) []) (hi : i1 ≤ 4611686018427387904) :
 Calls Try.prog 46 #[.agg #[.int .u8 7, .int .u64 (t1 : Int), .int .u64 0, .int .u64 (i1 : Int), .int .u64 (a1 : Int), .int .u64 0, .bool false, .slice pl 0 cl, .slice pd 0 cd]] w fun e w' => e = .returned (.bool true) ∧ Below w.heap.size w w' := by
 have HB0 := zh ((Below.refl w.heap.size w).alloc (Nat.le_refl _) (.cells #[.int .u8 7, .int .u64 (t1 : Int), .int .u64 0, .int .u64 (i1 : Int), .int .u64 (a1 : Int), .int .u64 0, .bool false, .slice pl 0 cl, .slice pd 0 cd] 31))
 have HL1 := zh (h1.keeps HB0.out.block)
 have HF := zh (fields7_w (w.alloc (.cells #[.int .u8 7, .int .u64 (t1 : Int), .int .u64 0, .int .u64 (i1 : Int), .int .u64 (a1 : Int), .int .u64 0, .bool false, .slice pl 0 cl, .slice pd 0 cd] 31)))
 have HC := zh (fun (W : World) (hW : EsR W S1 (.slice pl 0 cl) []) => containsFunc_w S1 _ [] W hW (by decide))
 rw [show anyLong [] = false from rfl] at HC
 have pi1a : decide (4611686018427387904 < i1) = false := by simp; omega
 have pi1b : decide ((4611686018427387904 : Int) < (i1 : Int)) = false := by simp; omega
 clear h1
 go_enter Try.func46, Try.ntmps46
 go_wp2_with (first
  | (go_at_call 68; go_loud (refine (HF.out).mono ?_; rintro e w2 ⟨rfl, hB⟩; have HB2 := zh (HB0.out.trans (hB.mono HB0.out.size)); have HL2 := zh (HL1.out.keeps hB.block); obtain ⟨x0, x2, x3, x4, x5, x6, x7, x8⟩ := note_cells hB #[.bool false, .bool true, .bool true, .bool false, .bool false, .bool false, .bool true]; have HB2b := zh (HB2.out.alloc HB2.out.size (.cells #[.bool false, .bool true, .bool true, .bool false, .bool false, .bool false, .bool true] 112)); have HL2b := zh (HL2.out.keeps ((Keeps.refl w2).alloc (.cells #[.bool false, .bool true, .bool true, .bool false, .bool false, .bool false, .bool true] 112))); clear hB HF))
  | (refine wpList_alloc_zero rfl 112 rfl _ hz112 ?_)
  | (refine wpList_store_rowTo rfl 112 (.tmp 3) (.tmp 6) rfl rfl _ #[.bool false, .bool true, .bool true, .bool false, .bool false, .bool false, .bool true] rfl rfl 112 _ (heap_alloc_new w2 _) (show _ = some 7 by kernel_rfl) rfl (by simp [Value.oneCell']) ?_; rw [alloc_setRow])
  | (go_at_call 92; refine (HC.out _ HL2b.out).mono ?_; rintro e w4 ⟨rfl, hB⟩; have HB4 := zh (HB2b.out.trans (hB.mono HB2b.out.size)); clear hB HC))
 go_ret
 exact ⟨rfl, HB4.out⟩
theorem mayt_w (nt : RS.Nt) (pl pd : Option Addr) (nl cl nd cd : Nat) (S : Foot) (w : World) (hL : EsR w S (.slice pl nl cl) nt.list) (hD : DatA w S (.slice pd nd cd) []) (hm : mayN ⟨nt.kind, nt.term, nt.round, nt.index, nt.at_, nt.commit, nt.yes, nt.list, []⟩ = true) :
 Calls Try.prog 46 #[.agg #[.int .u8 (nt.kind : Int), .int .u64 (nt.term : Int), .int .u64 (nt.round : Int), .int .u64 (nt.index : Int), .int .u64 (nt.at_ : Int), .int .u64 (nt.commit : Int), .bool nt.yes, .slice pl nl cl, .slice pd nd cd]] w fun e w' => e = .returned (.bool true) ∧ Below w.heap.size w w' := by
 obtain ⟨k, t, r, i, a, c, y, l⟩ := nt
 obtain ⟨_, _, e⟩ := hL.len_form
 obtain ⟨_, _, e2, _⟩ := hD.rd
 cases e
 cases e2
 unfold mayN at hm
 rw [decide_eq_true_eq] at hm
 obtain ⟨h1, h7, hr, hi0, ha, hc0, hi, hc, hy, hl0, _, hl, _, hal⟩ := hm
 have hk : k = 1 ∨ k = 2 ∨ k = 3 ∨ k = 4 ∨ k = 5 ∨ k = 6 ∨ k = 7 := by have h1 : 1 ≤ k := h1; have h7 : k ≤ 7 := h7; omega
 dsimp only at hL hr hi0 ha hc0 hi hc hy hl0 hl hal ⊢
 rcases hk with rfl | rfl | rfl | rfl | rfl | rfl | rfl
 · obtain rfl : c = 0 := hc0 rfl
   obtain rfl : y = false := hy rfl
   obtain rfl : l = [] := List.eq_nil_of_length_eq_zero (hl0 rfl)
   exact mayt_1 _ _ _ _ _ _ _ _ S w hL hi
 · obtain rfl : i = 0 := hi0 rfl
   obtain rfl : a = 0 := ha rfl
   obtain rfl : c = 0 := hc0 rfl
   obtain rfl : l = [] := List.eq_nil_of_length_eq_zero (hl0 rfl)
   exact mayt_2 _ _ _ _ _ _ _ S w hL
 · obtain rfl : r = 0 := hr rfl
   obtain rfl : c = 0 := hc0 rfl
   obtain rfl : y = false := hy rfl
   obtain rfl : l = [] := List.eq_nil_of_length_eq_zero (hl0 rfl)
   exact mayt_3 _ _ _ _ _ _ _ S w hL hi
 · obtain rfl : r = 0 := hr rfl
   obtain rfl : i = 0 := hi0 rfl
   obtain rfl : a = 0 := ha rfl
   obtain rfl : c = 0 := hc0 rfl
   obtain rfl : l = [] := List.eq_nil_of_length_eq_zero (hl0 rfl)
   exact mayt_4 _ _ _ _ _ _ S w hL
 · obtain rfl : r = 0 := hr rfl
   obtain rfl : y = false := hy rfl
   exact mayt_5 _ _ _ _ _ _ _ _ _ S w hL hi hc hl hal
 · obtain rfl : r = 0 := hr rfl
   obtain rfl : a = 0 := ha rfl
   obtain rfl : c = 0 := hc0 rfl
   obtain rfl : l = [] := List.eq_nil_of_length_eq_zero (hl0 rfl)
   exact mayt_6 _ _ _ _ _ _ _ S w hL hi
 · obtain rfl : r = 0 := hr rfl
   obtain rfl : c = 0 := hc0 rfl
   obtain rfl : y = false := hy rfl
   obtain rfl : l = [] := List.eq_nil_of_length_eq_zero (hl0 rfl)
   exact mayt_7 _ _ _ _ _ _ _ S w hL hi
end Go.Proofs.Yteellfgiejnigaa
