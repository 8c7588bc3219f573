/- The document's May. -/
import Derived.Test.YteellfgiejnigaaQbN11
import Derived.Test.YteellfgiejnigaaQbX1
namespace Go.Proofs.Yteellfgiejnigaa
open Go.ChangeShapes Go.WideShapes Go.ChangeAt Go.RowKit
set_option linter.unusedVariables false
set_option maxRecDepth 100000 in
set_option maxHeartbeats 6400000 in
theorem rmay_0_w (k t r i a c : Nat) (y : Bool) (pl pd : Option Addr) (cl cd : Nat) (L : List Ent) (D : List UInt8) (bc : Array Value) (w : World) (g0 : k < 1) :
    Calls Try.prog 47 #[.agg #[.int .u8 (k : Int), .int .u64 (t : Int), .int .u64 (r : Int), .int .u64 (i : Int), .int .u64 (a : Int), .int .u64 (c : Int), .bool y, .slice pl L.length cl, .slice pd D.length cd]] w fun e w' => e = .returned (.bool (false)) ∧ Below w.heap.size w w' := by
  have e0a : decide (k < 1) = true := by simp; omega
  have e0b : decide ((k : Int) < 1) = true := by simp; omega
  have hB0 := (Below.refl w.heap.size w).alloc (Nat.le_refl _) (.cells #[.int .u8 (k : Int), .int .u64 (t : Int), .int .u64 (r : Int), .int .u64 (i : Int), .int .u64 (a : Int), .int .u64 (c : Int), .bool y, .slice pl L.length cl, .slice pd D.length cd] 31)
  have HB0 := Lib.hid hB0
  have hg : ∀ W, RegT.Grow (w.alloc (.cells #[.int .u8 (k : Int), .int .u64 (t : Int), .int .u64 (r : Int), .int .u64 (i : Int), .int .u64 (a : Int), .int .u64 (c : Int), .bool y, .slice pl L.length cl, .slice pd D.length cd] 31)).drew W → Keeps (w.alloc (.cells #[.int .u8 (k : Int), .int .u64 (t : Int), .int .u64 (r : Int), .int .u64 (i : Int), .int .u64 (a : Int), .int .u64 (c : Int), .bool y, .slice pl L.length cl, .slice pd D.length cd] 31)) W := fun W hR => (Keeps.refl _).drew.trans hR.block
  have HX := Lib.hid (fun (W : World) (hR : RegT.Grow (w.alloc (.cells #[.int .u8 (k : Int), .int .u64 (t : Int), .int .u64 (r : Int), .int .u64 (i : Int), .int .u64 (a : Int), .int .u64 (c : Int), .bool y, .slice pl L.length cl, .slice pd D.length cd] 31)).drew W) => (NcAt.new w #[.int .u8 (k : Int), .int .u64 (t : Int), .int .u64 (r : Int), .int .u64 (i : Int), .int .u64 (a : Int), .int .u64 (c : Int), .bool y, .slice pl L.length cl, .slice pd D.length cd]).keeps (hg W hR))
  have HK := Lib.hid (fun (W : World) (hR : RegT.Grow (w.alloc (.cells #[.int .u8 (k : Int), .int .u64 (t : Int), .int .u64 (r : Int), .int .u64 (i : Int), .int .u64 (a : Int), .int .u64 (c : Int), .bool y, .slice pl L.length cl, .slice pd D.length cd] 31)).drew W) => (show Keeps w W from Keeps.trans hB0.block (hg W hR)))
  have X0 := Lib.hid (fun (W : World) (hR : RegT.Grow (w.alloc (.cells #[.int .u8 (k : Int), .int .u64 (t : Int), .int .u64 (r : Int), .int .u64 (i : Int), .int .u64 (a : Int), .int .u64 (c : Int), .bool y, .slice pl L.length cl, .slice pd D.length cd] 31)).drew W) => (show W.cell? ⟨w.heap.size, 0, none⟩ = some (.int .u8 (k : Int)) from by rw [cell_of_row _ _ _ _ _ _ (HX.out W hR)]; rfl))
  have X3 := Lib.hid (fun (W : World) (hR : RegT.Grow (w.alloc (.cells #[.int .u8 (k : Int), .int .u64 (t : Int), .int .u64 (r : Int), .int .u64 (i : Int), .int .u64 (a : Int), .int .u64 (c : Int), .bool y, .slice pl L.length cl, .slice pd D.length cd] 31)).drew W) => (show W.cell? ⟨w.heap.size, 3, none⟩ = some (.int .u64 (i : Int)) from by rw [cell_of_row _ _ _ _ _ _ (HX.out W hR)]; rfl))
  have X5 := Lib.hid (fun (W : World) (hR : RegT.Grow (w.alloc (.cells #[.int .u8 (k : Int), .int .u64 (t : Int), .int .u64 (r : Int), .int .u64 (i : Int), .int .u64 (a : Int), .int .u64 (c : Int), .bool y, .slice pl L.length cl, .slice pd D.length cd] 31)).drew W) => (show W.cell? ⟨w.heap.size, 5, none⟩ = some (.int .u64 (c : Int)) from by rw [cell_of_row _ _ _ _ _ _ (HX.out W hR)]; rfl))
  have X7 := Lib.hid (fun (W : World) (hR : RegT.Grow (w.alloc (.cells #[.int .u8 (k : Int), .int .u64 (t : Int), .int .u64 (r : Int), .int .u64 (i : Int), .int .u64 (a : Int), .int .u64 (c : Int), .bool y, .slice pl L.length cl, .slice pd D.length cd] 31)).drew W) => (show W.cell? ⟨w.heap.size, 7, none⟩ = some (.slice pl L.length cl) from by rw [cell_of_row _ _ _ _ _ _ (HX.out W hR)]; rfl))
  have X8 := Lib.hid (fun (W : World) (hR : RegT.Grow (w.alloc (.cells #[.int .u8 (k : Int), .int .u64 (t : Int), .int .u64 (r : Int), .int .u64 (i : Int), .int .u64 (a : Int), .int .u64 (c : Int), .bool y, .slice pl L.length cl, .slice pd D.length cd] 31)).drew W) => (show W.cell? ⟨w.heap.size, 8, none⟩ = some (.slice pd D.length cd) from by rw [cell_of_row _ _ _ _ _ _ (HX.out W hR)]; rfl))
  clear hB0 hg g0
  go_enter Try.func47, Try.ntmps47
  go_wp2
  apply RegT.wp_region_T rfl 56 37 rfl (by kernel_rfl) RegT.Grow RegT.Grow.refl RegT.Grow.trans
  · apply RegT.T_pure rfl rfl rfl
    · intro W hR; clear hR; go_simp; rfl
    simp only [List.set_cons_succ, List.set_cons_zero, Nat.reduceAdd]
    apply RegT.T_pure rfl rfl rfl
    · intro W hR
      have hc := X0.out W hR
      clear hR
      go_simp; rfl
    simp only [List.set_cons_succ, List.set_cons_zero, Nat.reduceAdd]
    apply RegT.T_pure (v := .bool true) rfl rfl rfl
    · intro W hR; clear hR; go_simp
    simp only [List.set_cons_succ, List.set_cons_zero, Nat.reduceAdd]
    apply RegT.T_pure (v := .bool true) rfl rfl rfl
    · intro W hR; clear hR; go_simp
    simp only [List.set_cons_succ, List.set_cons_zero, Nat.reduceAdd]
    apply RegT.T_skip rfl rfl rfl
    simp only [List.set_cons_succ, List.set_cons_zero, Nat.reduceAdd]
    apply RegT.T_skip rfl rfl rfl
    simp only [List.set_cons_succ, List.set_cons_zero, Nat.reduceAdd]
    apply RegT.T_skip rfl rfl rfl
    simp only [List.set_cons_succ, List.set_cons_zero, Nat.reduceAdd]
    apply RegT.T_pure (v := .bool true) rfl rfl rfl
    · intro W hR; clear hR; go_simp
    simp only [List.set_cons_succ, List.set_cons_zero, Nat.reduceAdd]
    apply RegT.T_pure (v := .bool true) rfl rfl rfl
    · intro W hR; clear hR; go_simp
    simp only [List.set_cons_succ, List.set_cons_zero, Nat.reduceAdd]
    apply RegT.T_skip rfl rfl rfl
    simp only [List.set_cons_succ, List.set_cons_zero, Nat.reduceAdd]
    apply RegT.T_skip rfl rfl rfl
    simp only [List.set_cons_succ, List.set_cons_zero, Nat.reduceAdd]
    apply RegT.T_skip rfl rfl rfl
    simp only [List.set_cons_succ, List.set_cons_zero, Nat.reduceAdd]
    apply RegT.T_skip rfl rfl rfl
    simp only [List.set_cons_succ, List.set_cons_zero, Nat.reduceAdd]
    apply RegT.T_skip rfl rfl rfl
    simp only [List.set_cons_succ, List.set_cons_zero, Nat.reduceAdd]
    apply RegT.T_pure (v := .bool true) rfl rfl rfl
    · intro W hR; clear hR; go_simp
    simp only [List.set_cons_succ, List.set_cons_zero, Nat.reduceAdd]
    apply RegT.T_pure (v := .bool true) rfl rfl rfl
    · intro W hR; clear hR; go_simp
    simp only [List.set_cons_succ, List.set_cons_zero, Nat.reduceAdd]
    apply RegT.T_skip rfl rfl rfl
    simp only [List.set_cons_succ, List.set_cons_zero, Nat.reduceAdd]
    apply RegT.T_skip rfl rfl rfl
    simp only [List.set_cons_succ, List.set_cons_zero, Nat.reduceAdd]
    apply RegT.T_skip rfl rfl rfl
    simp only [List.set_cons_succ, List.set_cons_zero, Nat.reduceAdd]
    apply RegT.T_pure (v := .bool true) rfl rfl rfl
    · intro W hR; clear hR; go_simp
    simp only [List.set_cons_succ, List.set_cons_zero, Nat.reduceAdd]
    apply RegT.T_pure (v := .bool true) rfl rfl rfl
    · intro W hR; clear hR; go_simp
    simp only [List.set_cons_succ, List.set_cons_zero, Nat.reduceAdd]
    apply RegT.T_skip rfl rfl rfl
    simp only [List.set_cons_succ, List.set_cons_zero, Nat.reduceAdd]
    apply RegT.T_skip rfl rfl rfl
    simp only [List.set_cons_succ, List.set_cons_zero, Nat.reduceAdd]
    apply RegT.T_skip rfl rfl rfl
    simp only [List.set_cons_succ, List.set_cons_zero, Nat.reduceAdd]
    apply RegT.T_pure (v := .bool true) rfl rfl rfl
    · intro W hR; clear hR; go_simp
    simp only [List.set_cons_succ, List.set_cons_zero, Nat.reduceAdd]
    apply RegT.T_pure (v := .bool true) rfl rfl rfl
    · intro W hR; clear hR; go_simp
    simp only [List.set_cons_succ, List.set_cons_zero, Nat.reduceAdd]
    apply RegT.T_skip rfl rfl rfl
    simp only [List.set_cons_succ, List.set_cons_zero, Nat.reduceAdd]
    apply RegT.T_skip rfl rfl rfl
    simp only [List.set_cons_succ, List.set_cons_zero, Nat.reduceAdd]
    apply RegT.T_skip rfl rfl rfl
    simp only [List.set_cons_succ, List.set_cons_zero, Nat.reduceAdd]
    apply RegT.T_skip rfl rfl rfl
    simp only [List.set_cons_succ, List.set_cons_zero, Nat.reduceAdd]
    apply RegT.T_pure (v := .bool true) rfl rfl rfl
    · intro W hR; clear hR; go_simp
    simp only [List.set_cons_succ, List.set_cons_zero, Nat.reduceAdd]
    apply RegT.T_pure (v := .bool true) rfl rfl rfl
    · intro W hR; clear hR; go_simp
    simp only [List.set_cons_succ, List.set_cons_zero, Nat.reduceAdd]
    apply RegT.T_skip rfl rfl rfl
    simp only [List.set_cons_succ, List.set_cons_zero, Nat.reduceAdd]
    apply RegT.T_skip rfl rfl rfl
    simp only [List.set_cons_succ, List.set_cons_zero, Nat.reduceAdd]
    apply RegT.T_skip rfl rfl rfl
    simp only [List.set_cons_succ, List.set_cons_zero, Nat.reduceAdd]
    apply RegT.T_skip rfl rfl rfl
    simp only [List.set_cons_succ, List.set_cons_zero, Nat.reduceAdd]
    apply RegT.T_pure (v := .bool true) rfl rfl rfl
    · intro W hR; clear hR; go_simp
    simp only [List.set_cons_succ, List.set_cons_zero, Nat.reduceAdd]
    refine RegT.T_end rfl (fun W5 hR hf => ?_)
    have HB5 := Lib.hid (HB0.out.trans (((Below.refl _ _).drew.trans hR).mono HB0.out.size))
    clear hR hf HX HK X0 X3 X5 X7 X8
    go_wp2
    go_ret
    exact ⟨rfl, HB5.out⟩
  · rfl
  · kernel_rfl
set_option maxRecDepth 100000 in
set_option maxHeartbeats 6400000 in
theorem rmay_1_w (k t r i a c : Nat) (y : Bool) (pl pd : Option Addr) (cl cd : Nat) (L : List Ent) (D : List UInt8) (bc : Array Value) (w : World) (g0 : ¬ k < 1) (g1 : 7 < k) :
    Calls Try.prog 47 #[.agg #[.int .u8 (k : Int), .int .u64 (t : Int), .int .u64 (r : Int), .int .u64 (i : Int), .int .u64 (a : Int), .int .u64 (c : Int), .bool y, .slice pl L.length cl, .slice pd D.length cd]] w fun e w' => e = .returned (.bool (false)) ∧ Below w.heap.size w w' := by
  have e0a : decide (k < 1) = false := by simp; omega
  have e0b : decide ((k : Int) < 1) = false := by simp; omega
  have e1a : decide (7 < k) = true := by simp; omega
  have e1b : decide ((7 : Int) < (k : Int)) = true := by simp; omega
  have hB0 := (Below.refl w.heap.size w).alloc (Nat.le_refl _) (.cells #[.int .u8 (k : Int), .int .u64 (t : Int), .int .u64 (r : Int), .int .u64 (i : Int), .int .u64 (a : Int), .int .u64 (c : Int), .bool y, .slice pl L.length cl, .slice pd D.length cd] 31)
  have HB0 := Lib.hid hB0
  have hg : ∀ W, RegT.Grow (w.alloc (.cells #[.int .u8 (k : Int), .int .u64 (t : Int), .int .u64 (r : Int), .int .u64 (i : Int), .int .u64 (a : Int), .int .u64 (c : Int), .bool y, .slice pl L.length cl, .slice pd D.length cd] 31)).drew W → Keeps (w.alloc (.cells #[.int .u8 (k : Int), .int .u64 (t : Int), .int .u64 (r : Int), .int .u64 (i : Int), .int .u64 (a : Int), .int .u64 (c : Int), .bool y, .slice pl L.length cl, .slice pd D.length cd] 31)) W := fun W hR => (Keeps.refl _).drew.trans hR.block
  have HX := Lib.hid (fun (W : World) (hR : RegT.Grow (w.alloc (.cells #[.int .u8 (k : Int), .int .u64 (t : Int), .int .u64 (r : Int), .int .u64 (i : Int), .int .u64 (a : Int), .int .u64 (c : Int), .bool y, .slice pl L.length cl, .slice pd D.length cd] 31)).drew W) => (NcAt.new w #[.int .u8 (k : Int), .int .u64 (t : Int), .int .u64 (r : Int), .int .u64 (i : Int), .int .u64 (a : Int), .int .u64 (c : Int), .bool y, .slice pl L.length cl, .slice pd D.length cd]).keeps (hg W hR))
  have HK := Lib.hid (fun (W : World) (hR : RegT.Grow (w.alloc (.cells #[.int .u8 (k : Int), .int .u64 (t : Int), .int .u64 (r : Int), .int .u64 (i : Int), .int .u64 (a : Int), .int .u64 (c : Int), .bool y, .slice pl L.length cl, .slice pd D.length cd] 31)).drew W) => (show Keeps w W from Keeps.trans hB0.block (hg W hR)))
  have X0 := Lib.hid (fun (W : World) (hR : RegT.Grow (w.alloc (.cells #[.int .u8 (k : Int), .int .u64 (t : Int), .int .u64 (r : Int), .int .u64 (i : Int), .int .u64 (a : Int), .int .u64 (c : Int), .bool y, .slice pl L.length cl, .slice pd D.length cd] 31)).drew W) => (show W.cell? ⟨w.heap.size, 0, none⟩ = some (.int .u8 (k : Int)) from by rw [cell_of_row _ _ _ _ _ _ (HX.out W hR)]; rfl))
  have X3 := Lib.hid (fun (W : World) (hR : RegT.Grow (w.alloc (.cells #[.int .u8 (k : Int), .int .u64 (t : Int), .int .u64 (r : Int), .int .u64 (i : Int), .int .u64 (a : Int), .int .u64 (c : Int), .bool y, .slice pl L.length cl, .slice pd D.length cd] 31)).drew W) => (show W.cell? ⟨w.heap.size, 3, none⟩ = some (.int .u64 (i : Int)) from by rw [cell_of_row _ _ _ _ _ _ (HX.out W hR)]; rfl))
  have X5 := Lib.hid (fun (W : World) (hR : RegT.Grow (w.alloc (.cells #[.int .u8 (k : Int), .int .u64 (t : Int), .int .u64 (r : Int), .int .u64 (i : Int), .int .u64 (a : Int), .int .u64 (c : Int), .bool y, .slice pl L.length cl, .slice pd D.length cd] 31)).drew W) => (show W.cell? ⟨w.heap.size, 5, none⟩ = some (.int .u64 (c : Int)) from by rw [cell_of_row _ _ _ _ _ _ (HX.out W hR)]; rfl))
  have X7 := Lib.hid (fun (W : World) (hR : RegT.Grow (w.alloc (.cells #[.int .u8 (k : Int), .int .u64 (t : Int), .int .u64 (r : Int), .int .u64 (i : Int), .int .u64 (a : Int), .int .u64 (c : Int), .bool y, .slice pl L.length cl, .slice pd D.length cd] 31)).drew W) => (show W.cell? ⟨w.heap.size, 7, none⟩ = some (.slice pl L.length cl) from by rw [cell_of_row _ _ _ _ _ _ (HX.out W hR)]; rfl))
  have X8 := Lib.hid (fun (W : World) (hR : RegT.Grow (w.alloc (.cells #[.int .u8 (k : Int), .int .u64 (t : Int), .int .u64 (r : Int), .int .u64 (i : Int), .int .u64 (a : Int), .int .u64 (c : Int), .bool y, .slice pl L.length cl, .slice pd D.length cd] 31)).drew W) => (show W.cell? ⟨w.heap.size, 8, none⟩ = some (.slice pd D.length cd) from by rw [cell_of_row _ _ _ _ _ _ (HX.out W hR)]; rfl))
  clear hB0 hg g0 g1
  go_enter Try.func47, Try.ntmps47
  go_wp2
  apply RegT.wp_region_T rfl 56 37 rfl (by kernel_rfl) RegT.Grow RegT.Grow.refl RegT.Grow.trans
  · apply RegT.T_pure rfl rfl rfl
    · intro W hR; clear hR; go_simp; rfl
    simp only [List.set_cons_succ, List.set_cons_zero, Nat.reduceAdd]
    apply RegT.T_pure rfl rfl rfl
    · intro W hR
      have hc := X0.out W hR
      clear hR
      go_simp; rfl
    simp only [List.set_cons_succ, List.set_cons_zero, Nat.reduceAdd]
    apply RegT.T_pure (v := .bool false) rfl rfl rfl
    · intro W hR; clear hR; go_simp
    simp only [List.set_cons_succ, List.set_cons_zero, Nat.reduceAdd]
    apply RegT.T_pure (v := .bool false) rfl rfl rfl
    · intro W hR; clear hR; go_simp
    simp only [List.set_cons_succ, List.set_cons_zero, Nat.reduceAdd]
    apply RegT.T_pure rfl rfl rfl
    · intro W hR; clear hR; go_simp; rfl
    simp only [List.set_cons_succ, List.set_cons_zero, Nat.reduceAdd]
    apply RegT.T_pure rfl rfl rfl
    · intro W hR
      have hc := X0.out W hR
      clear hR
      go_simp; rfl
    simp only [List.set_cons_succ, List.set_cons_zero, Nat.reduceAdd]
    apply RegT.T_pure (v := .bool true) rfl rfl rfl
    · intro W hR; clear hR; go_simp
    simp only [List.set_cons_succ, List.set_cons_zero, Nat.reduceAdd]
    apply RegT.T_pure (v := .bool true) rfl rfl rfl
    · intro W hR; clear hR; go_simp
    simp only [List.set_cons_succ, List.set_cons_zero, Nat.reduceAdd]
    apply RegT.T_pure (v := .bool true) rfl rfl rfl
    · intro W hR; clear hR; go_simp
    simp only [List.set_cons_succ, List.set_cons_zero, Nat.reduceAdd]
    apply RegT.T_skip rfl rfl rfl
    simp only [List.set_cons_succ, List.set_cons_zero, Nat.reduceAdd]
    apply RegT.T_skip rfl rfl rfl
    simp only [List.set_cons_succ, List.set_cons_zero, Nat.reduceAdd]
    apply RegT.T_skip rfl rfl rfl
    simp only [List.set_cons_succ, List.set_cons_zero, Nat.reduceAdd]
    apply RegT.T_skip rfl rfl rfl
    simp only [List.set_cons_succ, List.set_cons_zero, Nat.reduceAdd]
    apply RegT.T_skip rfl rfl rfl
    simp only [List.set_cons_succ, List.set_cons_zero, Nat.reduceAdd]
    apply RegT.T_pure (v := .bool true) rfl rfl rfl
    · intro W hR; clear hR; go_simp
    simp only [List.set_cons_succ, List.set_cons_zero, Nat.reduceAdd]
    apply RegT.T_pure (v := .bool true) rfl rfl rfl
    · intro W hR; clear hR; go_simp
    simp only [List.set_cons_succ, List.set_cons_zero, Nat.reduceAdd]
    apply RegT.T_skip rfl rfl rfl
    simp only [List.set_cons_succ, List.set_cons_zero, Nat.reduceAdd]
    apply RegT.T_skip rfl rfl rfl
    simp only [List.set_cons_succ, List.set_cons_zero, Nat.reduceAdd]
    apply RegT.T_skip rfl rfl rfl
    simp only [List.set_cons_succ, List.set_cons_zero, Nat.reduceAdd]
    apply RegT.T_pure (v := .bool true) rfl rfl rfl
    · intro W hR; clear hR; go_simp
    simp only [List.set_cons_succ, List.set_cons_zero, Nat.reduceAdd]
    apply RegT.T_pure (v := .bool true) rfl rfl rfl
    · intro W hR; clear hR; go_simp
    simp only [List.set_cons_succ, List.set_cons_zero, Nat.reduceAdd]
    apply RegT.T_skip rfl rfl rfl
    simp only [List.set_cons_succ, List.set_cons_zero, Nat.reduceAdd]
    apply RegT.T_skip rfl rfl rfl
    simp only [List.set_cons_succ, List.set_cons_zero, Nat.reduceAdd]
    apply RegT.T_skip rfl rfl rfl
    simp only [List.set_cons_succ, List.set_cons_zero, Nat.reduceAdd]
    apply RegT.T_pure (v := .bool true) rfl rfl rfl
    · intro W hR; clear hR; go_simp
    simp only [List.set_cons_succ, List.set_cons_zero, Nat.reduceAdd]
    apply RegT.T_pure (v := .bool true) rfl rfl rfl
    · intro W hR; clear hR; go_simp
    simp only [List.set_cons_succ, List.set_cons_zero, Nat.reduceAdd]
    apply RegT.T_skip rfl rfl rfl
    simp only [List.set_cons_succ, List.set_cons_zero, Nat.reduceAdd]
    apply RegT.T_skip rfl rfl rfl
    simp only [List.set_cons_succ, List.set_cons_zero, Nat.reduceAdd]
    apply RegT.T_skip rfl rfl rfl
    simp only [List.set_cons_succ, List.set_cons_zero, Nat.reduceAdd]
    apply RegT.T_skip rfl rfl rfl
    simp only [List.set_cons_succ, List.set_cons_zero, Nat.reduceAdd]
    apply RegT.T_pure (v := .bool true) rfl rfl rfl
    · intro W hR; clear hR; go_simp
    simp only [List.set_cons_succ, List.set_cons_zero, Nat.reduceAdd]
    apply RegT.T_pure (v := .bool true) rfl rfl rfl
    · intro W hR; clear hR; go_simp
    simp only [List.set_cons_succ, List.set_cons_zero, Nat.reduceAdd]
    apply RegT.T_skip rfl rfl rfl
    simp only [List.set_cons_succ, List.set_cons_zero, Nat.reduceAdd]
    apply RegT.T_skip rfl rfl rfl
    simp only [List.set_cons_succ, List.set_cons_zero, Nat.reduceAdd]
    apply RegT.T_skip rfl rfl rfl
    simp only [List.set_cons_succ, List.set_cons_zero, Nat.reduceAdd]
    apply RegT.T_skip rfl rfl rfl
    simp only [List.set_cons_succ, List.set_cons_zero, Nat.reduceAdd]
    apply RegT.T_pure (v := .bool true) rfl rfl rfl
    · intro W hR; clear hR; go_simp
    simp only [List.set_cons_succ, List.set_cons_zero, Nat.reduceAdd]
    refine RegT.T_end rfl (fun W5 hR hf => ?_)
    have HB5 := Lib.hid (HB0.out.trans (((Below.refl _ _).drew.trans hR).mono HB0.out.size))
    clear hR hf HX HK X0 X3 X5 X7 X8
    go_wp2
    go_ret
    exact ⟨rfl, HB5.out⟩
  · rfl
  · kernel_rfl
set_option maxRecDepth 100000 in
set_option maxHeartbeats 6400000 in
theorem rmay_2_w (k t r i a c : Nat) (y : Bool) (pl pd : Option Addr) (cl cd : Nat) (L : List Ent) (D : List UInt8) (bc : Array Value) (w : World) (g0 : ¬ k < 1) (g1 : ¬ 7 < k) (hb : ∀ W, Keeps w W → Calls Try.prog 94 #[.agg #[.int .u8 (k : Int), .int .u64 (t : Int), .int .u64 (r : Int), .int .u64 (i : Int), .int .u64 (a : Int), .int .u64 (c : Int), .bool y, .slice pl L.length cl, .slice pd D.length cd]] W fun e w' => e = .returned (.agg bc) ∧ Below W.heap.size W w') (hs : ∀ W, Keeps w W → Calls Try.prog 20 #[.agg #[.int .u8 (k : Int), .int .u64 (t : Int), .int .u64 (r : Int), .int .u64 (i : Int), .int .u64 (a : Int), .int .u64 (c : Int), .bool y, .slice pl L.length cl, .slice pd D.length cd], .agg bc] W fun e w' => e = .returned (.bool false) ∧ Below W.heap.size W w') :
    Calls Try.prog 47 #[.agg #[.int .u8 (k : Int), .int .u64 (t : Int), .int .u64 (r : Int), .int .u64 (i : Int), .int .u64 (a : Int), .int .u64 (c : Int), .bool y, .slice pl L.length cl, .slice pd D.length cd]] w fun e w' => e = .returned (.bool (false)) ∧ Below w.heap.size w w' := by
  have e0a : decide (k < 1) = false := by simp; omega
  have e0b : decide ((k : Int) < 1) = false := by simp; omega
  have e1a : decide (7 < k) = false := by simp; omega
  have e1b : decide ((7 : Int) < (k : Int)) = false := by simp; omega
  have hB0 := (Below.refl w.heap.size w).alloc (Nat.le_refl _) (.cells #[.int .u8 (k : Int), .int .u64 (t : Int), .int .u64 (r : Int), .int .u64 (i : Int), .int .u64 (a : Int), .int .u64 (c : Int), .bool y, .slice pl L.length cl, .slice pd D.length cd] 31)
  have HB0 := Lib.hid hB0
  have hg : ∀ W, RegT.Grow (w.alloc (.cells #[.int .u8 (k : Int), .int .u64 (t : Int), .int .u64 (r : Int), .int .u64 (i : Int), .int .u64 (a : Int), .int .u64 (c : Int), .bool y, .slice pl L.length cl, .slice pd D.length cd] 31)).drew W → Keeps (w.alloc (.cells #[.int .u8 (k : Int), .int .u64 (t : Int), .int .u64 (r : Int), .int .u64 (i : Int), .int .u64 (a : Int), .int .u64 (c : Int), .bool y, .slice pl L.length cl, .slice pd D.length cd] 31)) W := fun W hR => (Keeps.refl _).drew.trans hR.block
  have HX := Lib.hid (fun (W : World) (hR : RegT.Grow (w.alloc (.cells #[.int .u8 (k : Int), .int .u64 (t : Int), .int .u64 (r : Int), .int .u64 (i : Int), .int .u64 (a : Int), .int .u64 (c : Int), .bool y, .slice pl L.length cl, .slice pd D.length cd] 31)).drew W) => (NcAt.new w #[.int .u8 (k : Int), .int .u64 (t : Int), .int .u64 (r : Int), .int .u64 (i : Int), .int .u64 (a : Int), .int .u64 (c : Int), .bool y, .slice pl L.length cl, .slice pd D.length cd]).keeps (hg W hR))
  have HK := Lib.hid (fun (W : World) (hR : RegT.Grow (w.alloc (.cells #[.int .u8 (k : Int), .int .u64 (t : Int), .int .u64 (r : Int), .int .u64 (i : Int), .int .u64 (a : Int), .int .u64 (c : Int), .bool y, .slice pl L.length cl, .slice pd D.length cd] 31)).drew W) => (show Keeps w W from Keeps.trans hB0.block (hg W hR)))
  have X0 := Lib.hid (fun (W : World) (hR : RegT.Grow (w.alloc (.cells #[.int .u8 (k : Int), .int .u64 (t : Int), .int .u64 (r : Int), .int .u64 (i : Int), .int .u64 (a : Int), .int .u64 (c : Int), .bool y, .slice pl L.length cl, .slice pd D.length cd] 31)).drew W) => (show W.cell? ⟨w.heap.size, 0, none⟩ = some (.int .u8 (k : Int)) from by rw [cell_of_row _ _ _ _ _ _ (HX.out W hR)]; rfl))
  have X3 := Lib.hid (fun (W : World) (hR : RegT.Grow (w.alloc (.cells #[.int .u8 (k : Int), .int .u64 (t : Int), .int .u64 (r : Int), .int .u64 (i : Int), .int .u64 (a : Int), .int .u64 (c : Int), .bool y, .slice pl L.length cl, .slice pd D.length cd] 31)).drew W) => (show W.cell? ⟨w.heap.size, 3, none⟩ = some (.int .u64 (i : Int)) from by rw [cell_of_row _ _ _ _ _ _ (HX.out W hR)]; rfl))
  have X5 := Lib.hid (fun (W : World) (hR : RegT.Grow (w.alloc (.cells #[.int .u8 (k : Int), .int .u64 (t : Int), .int .u64 (r : Int), .int .u64 (i : Int), .int .u64 (a : Int), .int .u64 (c : Int), .bool y, .slice pl L.length cl, .slice pd D.length cd] 31)).drew W) => (show W.cell? ⟨w.heap.size, 5, none⟩ = some (.int .u64 (c : Int)) from by rw [cell_of_row _ _ _ _ _ _ (HX.out W hR)]; rfl))
  have X7 := Lib.hid (fun (W : World) (hR : RegT.Grow (w.alloc (.cells #[.int .u8 (k : Int), .int .u64 (t : Int), .int .u64 (r : Int), .int .u64 (i : Int), .int .u64 (a : Int), .int .u64 (c : Int), .bool y, .slice pl L.length cl, .slice pd D.length cd] 31)).drew W) => (show W.cell? ⟨w.heap.size, 7, none⟩ = some (.slice pl L.length cl) from by rw [cell_of_row _ _ _ _ _ _ (HX.out W hR)]; rfl))
  have X8 := Lib.hid (fun (W : World) (hR : RegT.Grow (w.alloc (.cells #[.int .u8 (k : Int), .int .u64 (t : Int), .int .u64 (r : Int), .int .u64 (i : Int), .int .u64 (a : Int), .int .u64 (c : Int), .bool y, .slice pl L.length cl, .slice pd D.length cd] 31)).drew W) => (show W.cell? ⟨w.heap.size, 8, none⟩ = some (.slice pd D.length cd) from by rw [cell_of_row _ _ _ _ _ _ (HX.out W hR)]; rfl))
  have Hb := Lib.hid hb
  have Hs := Lib.hid hs
  clear hB0 hg hb hs g0 g1
  go_enter Try.func47, Try.ntmps47
  go_wp2
  apply RegT.wp_region_T rfl 56 37 rfl (by kernel_rfl) RegT.Grow RegT.Grow.refl RegT.Grow.trans
  · apply RegT.T_pure rfl rfl rfl
    · intro W hR; clear hR; go_simp; rfl
    simp only [List.set_cons_succ, List.set_cons_zero, Nat.reduceAdd]
    apply RegT.T_pure rfl rfl rfl
    · intro W hR
      have hc := X0.out W hR
      clear hR
      go_simp; rfl
    simp only [List.set_cons_succ, List.set_cons_zero, Nat.reduceAdd]
    apply RegT.T_pure (v := .bool false) rfl rfl rfl
    · intro W hR; clear hR; go_simp
    simp only [List.set_cons_succ, List.set_cons_zero, Nat.reduceAdd]
    apply RegT.T_pure (v := .bool false) rfl rfl rfl
    · intro W hR; clear hR; go_simp
    simp only [List.set_cons_succ, List.set_cons_zero, Nat.reduceAdd]
    apply RegT.T_pure rfl rfl rfl
    · intro W hR; clear hR; go_simp; rfl
    simp only [List.set_cons_succ, List.set_cons_zero, Nat.reduceAdd]
    apply RegT.T_pure rfl rfl rfl
    · intro W hR
      have hc := X0.out W hR
      clear hR
      go_simp; rfl
    simp only [List.set_cons_succ, List.set_cons_zero, Nat.reduceAdd]
    apply RegT.T_pure (v := .bool false) rfl rfl rfl
    · intro W hR; clear hR; go_simp
    simp only [List.set_cons_succ, List.set_cons_zero, Nat.reduceAdd]
    apply RegT.T_pure (v := .bool false) rfl rfl rfl
    · intro W hR; clear hR; go_simp
    simp only [List.set_cons_succ, List.set_cons_zero, Nat.reduceAdd]
    apply RegT.T_pure (v := .bool false) rfl rfl rfl
    · intro W hR; clear hR; go_simp
    simp only [List.set_cons_succ, List.set_cons_zero, Nat.reduceAdd]
    apply RegT.T_pure rfl rfl rfl
    · exact fun W hR => load_nc (.tmp 1) rfl rfl (HX.out W hR) rfl
    simp only [List.set_cons_succ, List.set_cons_zero, Nat.reduceAdd]
    apply RegT.T_pure rfl rfl rfl
    · exact fun W hR => load_nc (.tmp 1) rfl rfl (HX.out W hR) rfl
    simp only [List.set_cons_succ, List.set_cons_zero, Nat.reduceAdd]
    apply RegT.T_const rfl rfl rfl (.agg bc) (fun _ _ h => h)
    · intro W hR hf
      have Hc := Lib.hid (Hb.out W (HK.out W hR))
      clear hR hf
      go_simp
      exact RegT.OpOK_enter Hc.out (fun e w' h => ⟨_, h.1, rfl, h.2⟩)
    simp only [List.set_cons_succ, List.set_cons_zero, Nat.reduceAdd]
    apply RegT.T_const rfl rfl rfl (.bool false) (fun _ _ h => h)
    · intro W hR hf
      have Hc := Lib.hid (Hs.out W (HK.out W hR))
      clear hR hf
      go_simp
      exact RegT.OpOK_enter Hc.out (fun e w' h => ⟨_, h.1, rfl, h.2⟩)
    simp only [List.set_cons_succ, List.set_cons_zero, Nat.reduceAdd]
    apply RegT.T_pure (v := .bool true) rfl rfl rfl
    · intro W hR; clear hR; go_simp
    simp only [List.set_cons_succ, List.set_cons_zero, Nat.reduceAdd]
    apply RegT.T_pure (v := .bool true) rfl rfl rfl
    · intro W hR; clear hR; go_simp
    simp only [List.set_cons_succ, List.set_cons_zero, Nat.reduceAdd]
    apply RegT.T_pure (v := .bool true) rfl rfl rfl
    · intro W hR; clear hR; go_simp
    simp only [List.set_cons_succ, List.set_cons_zero, Nat.reduceAdd]
    apply RegT.T_skip rfl rfl rfl
    simp only [List.set_cons_succ, List.set_cons_zero, Nat.reduceAdd]
    apply RegT.T_skip rfl rfl rfl
    simp only [List.set_cons_succ, List.set_cons_zero, Nat.reduceAdd]
    apply RegT.T_skip rfl rfl rfl
    simp only [List.set_cons_succ, List.set_cons_zero, Nat.reduceAdd]
    apply RegT.T_pure (v := .bool true) rfl rfl rfl
    · intro W hR; clear hR; go_simp
    simp only [List.set_cons_succ, List.set_cons_zero, Nat.reduceAdd]
    apply RegT.T_pure (v := .bool true) rfl rfl rfl
    · intro W hR; clear hR; go_simp
    simp only [List.set_cons_succ, List.set_cons_zero, Nat.reduceAdd]
    apply RegT.T_skip rfl rfl rfl
    simp only [List.set_cons_succ, List.set_cons_zero, Nat.reduceAdd]
    apply RegT.T_skip rfl rfl rfl
    simp only [List.set_cons_succ, List.set_cons_zero, Nat.reduceAdd]
    apply RegT.T_skip rfl rfl rfl
    simp only [List.set_cons_succ, List.set_cons_zero, Nat.reduceAdd]
    apply RegT.T_pure (v := .bool true) rfl rfl rfl
    · intro W hR; clear hR; go_simp
    simp only [List.set_cons_succ, List.set_cons_zero, Nat.reduceAdd]
    apply RegT.T_pure (v := .bool true) rfl rfl rfl
    · intro W hR; clear hR; go_simp
    simp only [List.set_cons_succ, List.set_cons_zero, Nat.reduceAdd]
    apply RegT.T_skip rfl rfl rfl
    simp only [List.set_cons_succ, List.set_cons_zero, Nat.reduceAdd]
    apply RegT.T_skip rfl rfl rfl
    simp only [List.set_cons_succ, List.set_cons_zero, Nat.reduceAdd]
    apply RegT.T_skip rfl rfl rfl
    simp only [List.set_cons_succ, List.set_cons_zero, Nat.reduceAdd]
    apply RegT.T_skip rfl rfl rfl
    simp only [List.set_cons_succ, List.set_cons_zero, Nat.reduceAdd]
    apply RegT.T_pure (v := .bool true) rfl rfl rfl
    · intro W hR; clear hR; go_simp
    simp only [List.set_cons_succ, List.set_cons_zero, Nat.reduceAdd]
    apply RegT.T_pure (v := .bool true) rfl rfl rfl
    · intro W hR; clear hR; go_simp
    simp only [List.set_cons_succ, List.set_cons_zero, Nat.reduceAdd]
    apply RegT.T_skip rfl rfl rfl
    simp only [List.set_cons_succ, List.set_cons_zero, Nat.reduceAdd]
    apply RegT.T_skip rfl rfl rfl
    simp only [List.set_cons_succ, List.set_cons_zero, Nat.reduceAdd]
    apply RegT.T_skip rfl rfl rfl
    simp only [List.set_cons_succ, List.set_cons_zero, Nat.reduceAdd]
    apply RegT.T_skip rfl rfl rfl
    simp only [List.set_cons_succ, List.set_cons_zero, Nat.reduceAdd]
    apply RegT.T_pure (v := .bool true) rfl rfl rfl
    · intro W hR; clear hR; go_simp
    simp only [List.set_cons_succ, List.set_cons_zero, Nat.reduceAdd]
    refine RegT.T_end rfl (fun W5 hR hf => ?_)
    have HB5 := Lib.hid (HB0.out.trans (((Below.refl _ _).drew.trans hR).mono HB0.out.size))
    clear hR hf HX HK X0 X3 X5 X7 X8
    go_wp2
    go_ret
    exact ⟨rfl, HB5.out⟩
  · rfl
  · kernel_rfl
set_option maxRecDepth 100000 in
set_option maxHeartbeats 6400000 in
theorem rmay_3_w (k t r i a c : Nat) (y : Bool) (pl pd : Option Addr) (cl cd : Nat) (L : List Ent) (D : List UInt8) (bc : Array Value) (w : World) (g0 : ¬ k < 1) (g1 : ¬ 7 < k) (g3 : 4611686018427387904 < i) (hb : ∀ W, Keeps w W → Calls Try.prog 94 #[.agg #[.int .u8 (k : Int), .int .u64 (t : Int), .int .u64 (r : Int), .int .u64 (i : Int), .int .u64 (a : Int), .int .u64 (c : Int), .bool y, .slice pl L.length cl, .slice pd D.length cd]] W fun e w' => e = .returned (.agg bc) ∧ Below W.heap.size W w') (hs : ∀ W, Keeps w W → Calls Try.prog 20 #[.agg #[.int .u8 (k : Int), .int .u64 (t : Int), .int .u64 (r : Int), .int .u64 (i : Int), .int .u64 (a : Int), .int .u64 (c : Int), .bool y, .slice pl L.length cl, .slice pd D.length cd], .agg bc] W fun e w' => e = .returned (.bool true) ∧ Below W.heap.size W w') :
    Calls Try.prog 47 #[.agg #[.int .u8 (k : Int), .int .u64 (t : Int), .int .u64 (r : Int), .int .u64 (i : Int), .int .u64 (a : Int), .int .u64 (c : Int), .bool y, .slice pl L.length cl, .slice pd D.length cd]] w fun e w' => e = .returned (.bool (false)) ∧ Below w.heap.size w w' := by
  have e0a : decide (k < 1) = false := by simp; omega
  have e0b : decide ((k : Int) < 1) = false := by simp; omega
  have e1a : decide (7 < k) = false := by simp; omega
  have e1b : decide ((7 : Int) < (k : Int)) = false := by simp; omega
  have e3a : decide (4611686018427387904 < i) = true := by simp; omega
  have e3b : decide ((4611686018427387904 : Int) < (i : Int)) = true := by simp; omega
  have hB0 := (Below.refl w.heap.size w).alloc (Nat.le_refl _) (.cells #[.int .u8 (k : Int), .int .u64 (t : Int), .int .u64 (r : Int), .int .u64 (i : Int), .int .u64 (a : Int), .int .u64 (c : Int), .bool y, .slice pl L.length cl, .slice pd D.length cd] 31)
  have HB0 := Lib.hid hB0
  have hg : ∀ W, RegT.Grow (w.alloc (.cells #[.int .u8 (k : Int), .int .u64 (t : Int), .int .u64 (r : Int), .int .u64 (i : Int), .int .u64 (a : Int), .int .u64 (c : Int), .bool y, .slice pl L.length cl, .slice pd D.length cd] 31)).drew W → Keeps (w.alloc (.cells #[.int .u8 (k : Int), .int .u64 (t : Int), .int .u64 (r : Int), .int .u64 (i : Int), .int .u64 (a : Int), .int .u64 (c : Int), .bool y, .slice pl L.length cl, .slice pd D.length cd] 31)) W := fun W hR => (Keeps.refl _).drew.trans hR.block
  have HX := Lib.hid (fun (W : World) (hR : RegT.Grow (w.alloc (.cells #[.int .u8 (k : Int), .int .u64 (t : Int), .int .u64 (r : Int), .int .u64 (i : Int), .int .u64 (a : Int), .int .u64 (c : Int), .bool y, .slice pl L.length cl, .slice pd D.length cd] 31)).drew W) => (NcAt.new w #[.int .u8 (k : Int), .int .u64 (t : Int), .int .u64 (r : Int), .int .u64 (i : Int), .int .u64 (a : Int), .int .u64 (c : Int), .bool y, .slice pl L.length cl, .slice pd D.length cd]).keeps (hg W hR))
  have HK := Lib.hid (fun (W : World) (hR : RegT.Grow (w.alloc (.cells #[.int .u8 (k : Int), .int .u64 (t : Int), .int .u64 (r : Int), .int .u64 (i : Int), .int .u64 (a : Int), .int .u64 (c : Int), .bool y, .slice pl L.length cl, .slice pd D.length cd] 31)).drew W) => (show Keeps w W from Keeps.trans hB0.block (hg W hR)))
  have X0 := Lib.hid (fun (W : World) (hR : RegT.Grow (w.alloc (.cells #[.int .u8 (k : Int), .int .u64 (t : Int), .int .u64 (r : Int), .int .u64 (i : Int), .int .u64 (a : Int), .int .u64 (c : Int), .bool y, .slice pl L.length cl, .slice pd D.length cd] 31)).drew W) => (show W.cell? ⟨w.heap.size, 0, none⟩ = some (.int .u8 (k : Int)) from by rw [cell_of_row _ _ _ _ _ _ (HX.out W hR)]; rfl))
  have X3 := Lib.hid (fun (W : World) (hR : RegT.Grow (w.alloc (.cells #[.int .u8 (k : Int), .int .u64 (t : Int), .int .u64 (r : Int), .int .u64 (i : Int), .int .u64 (a : Int), .int .u64 (c : Int), .bool y, .slice pl L.length cl, .slice pd D.length cd] 31)).drew W) => (show W.cell? ⟨w.heap.size, 3, none⟩ = some (.int .u64 (i : Int)) from by rw [cell_of_row _ _ _ _ _ _ (HX.out W hR)]; rfl))
  have X5 := Lib.hid (fun (W : World) (hR : RegT.Grow (w.alloc (.cells #[.int .u8 (k : Int), .int .u64 (t : Int), .int .u64 (r : Int), .int .u64 (i : Int), .int .u64 (a : Int), .int .u64 (c : Int), .bool y, .slice pl L.length cl, .slice pd D.length cd] 31)).drew W) => (show W.cell? ⟨w.heap.size, 5, none⟩ = some (.int .u64 (c : Int)) from by rw [cell_of_row _ _ _ _ _ _ (HX.out W hR)]; rfl))
  have X7 := Lib.hid (fun (W : World) (hR : RegT.Grow (w.alloc (.cells #[.int .u8 (k : Int), .int .u64 (t : Int), .int .u64 (r : Int), .int .u64 (i : Int), .int .u64 (a : Int), .int .u64 (c : Int), .bool y, .slice pl L.length cl, .slice pd D.length cd] 31)).drew W) => (show W.cell? ⟨w.heap.size, 7, none⟩ = some (.slice pl L.length cl) from by rw [cell_of_row _ _ _ _ _ _ (HX.out W hR)]; rfl))
  have X8 := Lib.hid (fun (W : World) (hR : RegT.Grow (w.alloc (.cells #[.int .u8 (k : Int), .int .u64 (t : Int), .int .u64 (r : Int), .int .u64 (i : Int), .int .u64 (a : Int), .int .u64 (c : Int), .bool y, .slice pl L.length cl, .slice pd D.length cd] 31)).drew W) => (show W.cell? ⟨w.heap.size, 8, none⟩ = some (.slice pd D.length cd) from by rw [cell_of_row _ _ _ _ _ _ (HX.out W hR)]; rfl))
  have Hb := Lib.hid hb
  have Hs := Lib.hid hs
  clear hB0 hg hb hs g0 g1 g3
  go_enter Try.func47, Try.ntmps47
  go_wp2
  apply RegT.wp_region_T rfl 56 37 rfl (by kernel_rfl) RegT.Grow RegT.Grow.refl RegT.Grow.trans
  · apply RegT.T_pure rfl rfl rfl
    · intro W hR; clear hR; go_simp; rfl
    simp only [List.set_cons_succ, List.set_cons_zero, Nat.reduceAdd]
    apply RegT.T_pure rfl rfl rfl
    · intro W hR
      have hc := X0.out W hR
      clear hR
      go_simp; rfl
    simp only [List.set_cons_succ, List.set_cons_zero, Nat.reduceAdd]
    apply RegT.T_pure (v := .bool false) rfl rfl rfl
    · intro W hR; clear hR; go_simp
    simp only [List.set_cons_succ, List.set_cons_zero, Nat.reduceAdd]
    apply RegT.T_pure (v := .bool false) rfl rfl rfl
    · intro W hR; clear hR; go_simp
    simp only [List.set_cons_succ, List.set_cons_zero, Nat.reduceAdd]
    apply RegT.T_pure rfl rfl rfl
    · intro W hR; clear hR; go_simp; rfl
    simp only [List.set_cons_succ, List.set_cons_zero, Nat.reduceAdd]
    apply RegT.T_pure rfl rfl rfl
    · intro W hR
      have hc := X0.out W hR
      clear hR
      go_simp; rfl
    simp only [List.set_cons_succ, List.set_cons_zero, Nat.reduceAdd]
    apply RegT.T_pure (v := .bool false) rfl rfl rfl
    · intro W hR; clear hR; go_simp
    simp only [List.set_cons_succ, List.set_cons_zero, Nat.reduceAdd]
    apply RegT.T_pure (v := .bool false) rfl rfl rfl
    · intro W hR; clear hR; go_simp
    simp only [List.set_cons_succ, List.set_cons_zero, Nat.reduceAdd]
    apply RegT.T_pure (v := .bool false) rfl rfl rfl
    · intro W hR; clear hR; go_simp
    simp only [List.set_cons_succ, List.set_cons_zero, Nat.reduceAdd]
    apply RegT.T_pure rfl rfl rfl
    · exact fun W hR => load_nc (.tmp 1) rfl rfl (HX.out W hR) rfl
    simp only [List.set_cons_succ, List.set_cons_zero, Nat.reduceAdd]
    apply RegT.T_pure rfl rfl rfl
    · exact fun W hR => load_nc (.tmp 1) rfl rfl (HX.out W hR) rfl
    simp only [List.set_cons_succ, List.set_cons_zero, Nat.reduceAdd]
    apply RegT.T_const rfl rfl rfl (.agg bc) (fun _ _ h => h)
    · intro W hR hf
      have Hc := Lib.hid (Hb.out W (HK.out W hR))
      clear hR hf
      go_simp
      exact RegT.OpOK_enter Hc.out (fun e w' h => ⟨_, h.1, rfl, h.2⟩)
    simp only [List.set_cons_succ, List.set_cons_zero, Nat.reduceAdd]
    apply RegT.T_const rfl rfl rfl (.bool true) (fun _ _ h => h)
    · intro W hR hf
      have Hc := Lib.hid (Hs.out W (HK.out W hR))
      clear hR hf
      go_simp
      exact RegT.OpOK_enter Hc.out (fun e w' h => ⟨_, h.1, rfl, h.2⟩)
    simp only [List.set_cons_succ, List.set_cons_zero, Nat.reduceAdd]
    apply RegT.T_pure (v := .bool false) rfl rfl rfl
    · intro W hR; clear hR; go_simp
    simp only [List.set_cons_succ, List.set_cons_zero, Nat.reduceAdd]
    apply RegT.T_pure (v := .bool false) rfl rfl rfl
    · intro W hR; clear hR; go_simp
    simp only [List.set_cons_succ, List.set_cons_zero, Nat.reduceAdd]
    apply RegT.T_pure (v := .bool false) rfl rfl rfl
    · intro W hR; clear hR; go_simp
    simp only [List.set_cons_succ, List.set_cons_zero, Nat.reduceAdd]
    apply RegT.T_pure rfl rfl rfl
    · intro W hR; clear hR; go_simp; rfl
    simp only [List.set_cons_succ, List.set_cons_zero, Nat.reduceAdd]
    apply RegT.T_pure rfl rfl rfl
    · intro W hR
      have hc := X3.out W hR
      clear hR
      go_simp; rfl
    simp only [List.set_cons_succ, List.set_cons_zero, Nat.reduceAdd]
    apply RegT.T_pure (v := .bool true) rfl rfl rfl
    · intro W hR; clear hR; go_simp
    simp only [List.set_cons_succ, List.set_cons_zero, Nat.reduceAdd]
    apply RegT.T_pure (v := .bool true) rfl rfl rfl
    · intro W hR; clear hR; go_simp
    simp only [List.set_cons_succ, List.set_cons_zero, Nat.reduceAdd]
    apply RegT.T_pure (v := .bool true) rfl rfl rfl
    · intro W hR; clear hR; go_simp
    simp only [List.set_cons_succ, List.set_cons_zero, Nat.reduceAdd]
    apply RegT.T_skip rfl rfl rfl
    simp only [List.set_cons_succ, List.set_cons_zero, Nat.reduceAdd]
    apply RegT.T_skip rfl rfl rfl
    simp only [List.set_cons_succ, List.set_cons_zero, Nat.reduceAdd]
    apply RegT.T_skip rfl rfl rfl
    simp only [List.set_cons_succ, List.set_cons_zero, Nat.reduceAdd]
    apply RegT.T_pure (v := .bool true) rfl rfl rfl
    · intro W hR; clear hR; go_simp
    simp only [List.set_cons_succ, List.set_cons_zero, Nat.reduceAdd]
    apply RegT.T_pure (v := .bool true) rfl rfl rfl
    · intro W hR; clear hR; go_simp
    simp only [List.set_cons_succ, List.set_cons_zero, Nat.reduceAdd]
    apply RegT.T_skip rfl rfl rfl
    simp only [List.set_cons_succ, List.set_cons_zero, Nat.reduceAdd]
    apply RegT.T_skip rfl rfl rfl
    simp only [List.set_cons_succ, List.set_cons_zero, Nat.reduceAdd]
    apply RegT.T_skip rfl rfl rfl
    simp only [List.set_cons_succ, List.set_cons_zero, Nat.reduceAdd]
    apply RegT.T_skip rfl rfl rfl
    simp only [List.set_cons_succ, List.set_cons_zero, Nat.reduceAdd]
    apply RegT.T_pure (v := .bool true) rfl rfl rfl
    · intro W hR; clear hR; go_simp
    simp only [List.set_cons_succ, List.set_cons_zero, Nat.reduceAdd]
    apply RegT.T_pure (v := .bool true) rfl rfl rfl
    · intro W hR; clear hR; go_simp
    simp only [List.set_cons_succ, List.set_cons_zero, Nat.reduceAdd]
    apply RegT.T_skip rfl rfl rfl
    simp only [List.set_cons_succ, List.set_cons_zero, Nat.reduceAdd]
    apply RegT.T_skip rfl rfl rfl
    simp only [List.set_cons_succ, List.set_cons_zero, Nat.reduceAdd]
    apply RegT.T_skip rfl rfl rfl
    simp only [List.set_cons_succ, List.set_cons_zero, Nat.reduceAdd]
    apply RegT.T_skip rfl rfl rfl
    simp only [List.set_cons_succ, List.set_cons_zero, Nat.reduceAdd]
    apply RegT.T_pure (v := .bool true) rfl rfl rfl
    · intro W hR; clear hR; go_simp
    simp only [List.set_cons_succ, List.set_cons_zero, Nat.reduceAdd]
    refine RegT.T_end rfl (fun W5 hR hf => ?_)
    have HB5 := Lib.hid (HB0.out.trans (((Below.refl _ _).drew.trans hR).mono HB0.out.size))
    clear hR hf HX HK X0 X3 X5 X7 X8
    go_wp2
    go_ret
    exact ⟨rfl, HB5.out⟩
  · rfl
  · kernel_rfl
set_option maxRecDepth 100000 in
set_option maxHeartbeats 6400000 in
theorem rmay_4_w (k t r i a c : Nat) (y : Bool) (pl pd : Option Addr) (cl cd : Nat) (L : List Ent) (D : List UInt8) (bc : Array Value) (w : World) (g0 : ¬ k < 1) (g1 : ¬ 7 < k) (g3 : ¬ 4611686018427387904 < i) (g4 : 4611686018427387904 < c) (hb : ∀ W, Keeps w W → Calls Try.prog 94 #[.agg #[.int .u8 (k : Int), .int .u64 (t : Int), .int .u64 (r : Int), .int .u64 (i : Int), .int .u64 (a : Int), .int .u64 (c : Int), .bool y, .slice pl L.length cl, .slice pd D.length cd]] W fun e w' => e = .returned (.agg bc) ∧ Below W.heap.size W w') (hs : ∀ W, Keeps w W → Calls Try.prog 20 #[.agg #[.int .u8 (k : Int), .int .u64 (t : Int), .int .u64 (r : Int), .int .u64 (i : Int), .int .u64 (a : Int), .int .u64 (c : Int), .bool y, .slice pl L.length cl, .slice pd D.length cd], .agg bc] W fun e w' => e = .returned (.bool true) ∧ Below W.heap.size W w') :
    Calls Try.prog 47 #[.agg #[.int .u8 (k : Int), .int .u64 (t : Int), .int .u64 (r : Int), .int .u64 (i : Int), .int .u64 (a : Int), .int .u64 (c : Int), .bool y, .slice pl L.length cl, .slice pd D.length cd]] w fun e w' => e = .returned (.bool (false)) ∧ Below w.heap.size w w' := by
  have e0a : decide (k < 1) = false := by simp; omega
  have e0b : decide ((k : Int) < 1) = false := by simp; omega
  have e1a : decide (7 < k) = false := by simp; omega
  have e1b : decide ((7 : Int) < (k : Int)) = false := by simp; omega
  have e3a : decide (4611686018427387904 < i) = false := by simp; omega
  have e3b : decide ((4611686018427387904 : Int) < (i : Int)) = false := by simp; omega
  have e4a : decide (4611686018427387904 < c) = true := by simp; omega
  have e4b : decide ((4611686018427387904 : Int) < (c : Int)) = true := by simp; omega
  have hB0 := (Below.refl w.heap.size w).alloc (Nat.le_refl _) (.cells #[.int .u8 (k : Int), .int .u64 (t : Int), .int .u64 (r : Int), .int .u64 (i : Int), .int .u64 (a : Int), .int .u64 (c : Int), .bool y, .slice pl L.length cl, .slice pd D.length cd] 31)
  have HB0 := Lib.hid hB0
  have hg : ∀ W, RegT.Grow (w.alloc (.cells #[.int .u8 (k : Int), .int .u64 (t : Int), .int .u64 (r : Int), .int .u64 (i : Int), .int .u64 (a : Int), .int .u64 (c : Int), .bool y, .slice pl L.length cl, .slice pd D.length cd] 31)).drew W → Keeps (w.alloc (.cells #[.int .u8 (k : Int), .int .u64 (t : Int), .int .u64 (r : Int), .int .u64 (i : Int), .int .u64 (a : Int), .int .u64 (c : Int), .bool y, .slice pl L.length cl, .slice pd D.length cd] 31)) W := fun W hR => (Keeps.refl _).drew.trans hR.block
  have HX := Lib.hid (fun (W : World) (hR : RegT.Grow (w.alloc (.cells #[.int .u8 (k : Int), .int .u64 (t : Int), .int .u64 (r : Int), .int .u64 (i : Int), .int .u64 (a : Int), .int .u64 (c : Int), .bool y, .slice pl L.length cl, .slice pd D.length cd] 31)).drew W) => (NcAt.new w #[.int .u8 (k : Int), .int .u64 (t : Int), .int .u64 (r : Int), .int .u64 (i : Int), .int .u64 (a : Int), .int .u64 (c : Int), .bool y, .slice pl L.length cl, .slice pd D.length cd]).keeps (hg W hR))
  have HK := Lib.hid (fun (W : World) (hR : RegT.Grow (w.alloc (.cells #[.int .u8 (k : Int), .int .u64 (t : Int), .int .u64 (r : Int), .int .u64 (i : Int), .int .u64 (a : Int), .int .u64 (c : Int), .bool y, .slice pl L.length cl, .slice pd D.length cd] 31)).drew W) => (show Keeps w W from Keeps.trans hB0.block (hg W hR)))
  have X0 := Lib.hid (fun (W : World) (hR : RegT.Grow (w.alloc (.cells #[.int .u8 (k : Int), .int .u64 (t : Int), .int .u64 (r : Int), .int .u64 (i : Int), .int .u64 (a : Int), .int .u64 (c : Int), .bool y, .slice pl L.length cl, .slice pd D.length cd] 31)).drew W) => (show W.cell? ⟨w.heap.size, 0, none⟩ = some (.int .u8 (k : Int)) from by rw [cell_of_row _ _ _ _ _ _ (HX.out W hR)]; rfl))
  have X3 := Lib.hid (fun (W : World) (hR : RegT.Grow (w.alloc (.cells #[.int .u8 (k : Int), .int .u64 (t : Int), .int .u64 (r : Int), .int .u64 (i : Int), .int .u64 (a : Int), .int .u64 (c : Int), .bool y, .slice pl L.length cl, .slice pd D.length cd] 31)).drew W) => (show W.cell? ⟨w.heap.size, 3, none⟩ = some (.int .u64 (i : Int)) from by rw [cell_of_row _ _ _ _ _ _ (HX.out W hR)]; rfl))
  have X5 := Lib.hid (fun (W : World) (hR : RegT.Grow (w.alloc (.cells #[.int .u8 (k : Int), .int .u64 (t : Int), .int .u64 (r : Int), .int .u64 (i : Int), .int .u64 (a : Int), .int .u64 (c : Int), .bool y, .slice pl L.length cl, .slice pd D.length cd] 31)).drew W) => (show W.cell? ⟨w.heap.size, 5, none⟩ = some (.int .u64 (c : Int)) from by rw [cell_of_row _ _ _ _ _ _ (HX.out W hR)]; rfl))
  have X7 := Lib.hid (fun (W : World) (hR : RegT.Grow (w.alloc (.cells #[.int .u8 (k : Int), .int .u64 (t : Int), .int .u64 (r : Int), .int .u64 (i : Int), .int .u64 (a : Int), .int .u64 (c : Int), .bool y, .slice pl L.length cl, .slice pd D.length cd] 31)).drew W) => (show W.cell? ⟨w.heap.size, 7, none⟩ = some (.slice pl L.length cl) from by rw [cell_of_row _ _ _ _ _ _ (HX.out W hR)]; rfl))
  have X8 := Lib.hid (fun (W : World) (hR : RegT.Grow (w.alloc (.cells #[.int .u8 (k : Int), .int .u64 (t : Int), .int .u64 (r : Int), .int .u64 (i : Int), .int .u64 (a : Int), .int .u64 (c : Int), .bool y, .slice pl L.length cl, .slice pd D.length cd] 31)).drew W) => (show W.cell? ⟨w.heap.size, 8, none⟩ = some (.slice pd D.length cd) from by rw [cell_of_row _ _ _ _ _ _ (HX.out W hR)]; rfl))
  have Hb := Lib.hid hb
  have Hs := Lib.hid hs
  clear hB0 hg hb hs g0 g1 g3 g4
  go_enter Try.func47, Try.ntmps47
  go_wp2
  apply RegT.wp_region_T rfl 56 37 rfl (by kernel_rfl) RegT.Grow RegT.Grow.refl RegT.Grow.trans
  · apply RegT.T_pure rfl rfl rfl
    · intro W hR; clear hR; go_simp; rfl
    simp only [List.set_cons_succ, List.set_cons_zero, Nat.reduceAdd]
    apply RegT.T_pure rfl rfl rfl
    · intro W hR
      have hc := X0.out W hR
      clear hR
      go_simp; rfl
    simp only [List.set_cons_succ, List.set_cons_zero, Nat.reduceAdd]
    apply RegT.T_pure (v := .bool false) rfl rfl rfl
    · intro W hR; clear hR; go_simp
    simp only [List.set_cons_succ, List.set_cons_zero, Nat.reduceAdd]
    apply RegT.T_pure (v := .bool false) rfl rfl rfl
    · intro W hR; clear hR; go_simp
    simp only [List.set_cons_succ, List.set_cons_zero, Nat.reduceAdd]
    apply RegT.T_pure rfl rfl rfl
    · intro W hR; clear hR; go_simp; rfl
    simp only [List.set_cons_succ, List.set_cons_zero, Nat.reduceAdd]
    apply RegT.T_pure rfl rfl rfl
    · intro W hR
      have hc := X0.out W hR
      clear hR
      go_simp; rfl
    simp only [List.set_cons_succ, List.set_cons_zero, Nat.reduceAdd]
    apply RegT.T_pure (v := .bool false) rfl rfl rfl
    · intro W hR; clear hR; go_simp
    simp only [List.set_cons_succ, List.set_cons_zero, Nat.reduceAdd]
    apply RegT.T_pure (v := .bool false) rfl rfl rfl
    · intro W hR; clear hR; go_simp
    simp only [List.set_cons_succ, List.set_cons_zero, Nat.reduceAdd]
    apply RegT.T_pure (v := .bool false) rfl rfl rfl
    · intro W hR; clear hR; go_simp
    simp only [List.set_cons_succ, List.set_cons_zero, Nat.reduceAdd]
    apply RegT.T_pure rfl rfl rfl
    · exact fun W hR => load_nc (.tmp 1) rfl rfl (HX.out W hR) rfl
    simp only [List.set_cons_succ, List.set_cons_zero, Nat.reduceAdd]
    apply RegT.T_pure rfl rfl rfl
    · exact fun W hR => load_nc (.tmp 1) rfl rfl (HX.out W hR) rfl
    simp only [List.set_cons_succ, List.set_cons_zero, Nat.reduceAdd]
    apply RegT.T_const rfl rfl rfl (.agg bc) (fun _ _ h => h)
    · intro W hR hf
      have Hc := Lib.hid (Hb.out W (HK.out W hR))
      clear hR hf
      go_simp
      exact RegT.OpOK_enter Hc.out (fun e w' h => ⟨_, h.1, rfl, h.2⟩)
    simp only [List.set_cons_succ, List.set_cons_zero, Nat.reduceAdd]
    apply RegT.T_const rfl rfl rfl (.bool true) (fun _ _ h => h)
    · intro W hR hf
      have Hc := Lib.hid (Hs.out W (HK.out W hR))
      clear hR hf
      go_simp
      exact RegT.OpOK_enter Hc.out (fun e w' h => ⟨_, h.1, rfl, h.2⟩)
    simp only [List.set_cons_succ, List.set_cons_zero, Nat.reduceAdd]
    apply RegT.T_pure (v := .bool false) rfl rfl rfl
    · intro W hR; clear hR; go_simp
    simp only [List.set_cons_succ, List.set_cons_zero, Nat.reduceAdd]
    apply RegT.T_pure (v := .bool false) rfl rfl rfl
    · intro W hR; clear hR; go_simp
    simp only [List.set_cons_succ, List.set_cons_zero, Nat.reduceAdd]
    apply RegT.T_pure (v := .bool false) rfl rfl rfl
    · intro W hR; clear hR; go_simp
    simp only [List.set_cons_succ, List.set_cons_zero, Nat.reduceAdd]
    apply RegT.T_pure rfl rfl rfl
    · intro W hR; clear hR; go_simp; rfl
    simp only [List.set_cons_succ, List.set_cons_zero, Nat.reduceAdd]
    apply RegT.T_pure rfl rfl rfl
    · intro W hR
      have hc := X3.out W hR
      clear hR
      go_simp; rfl
    simp only [List.set_cons_succ, List.set_cons_zero, Nat.reduceAdd]
    apply RegT.T_pure (v := .bool false) rfl rfl rfl
    · intro W hR; clear hR; go_simp
    simp only [List.set_cons_succ, List.set_cons_zero, Nat.reduceAdd]
    apply RegT.T_pure (v := .bool false) rfl rfl rfl
    · intro W hR; clear hR; go_simp
    simp only [List.set_cons_succ, List.set_cons_zero, Nat.reduceAdd]
    apply RegT.T_pure (v := .bool false) rfl rfl rfl
    · intro W hR; clear hR; go_simp
    simp only [List.set_cons_succ, List.set_cons_zero, Nat.reduceAdd]
    apply RegT.T_pure rfl rfl rfl
    · intro W hR; clear hR; go_simp; rfl
    simp only [List.set_cons_succ, List.set_cons_zero, Nat.reduceAdd]
    apply RegT.T_pure rfl rfl rfl
    · intro W hR
      have hc := X5.out W hR
      clear hR
      go_simp; rfl
    simp only [List.set_cons_succ, List.set_cons_zero, Nat.reduceAdd]
    apply RegT.T_pure (v := .bool true) rfl rfl rfl
    · intro W hR; clear hR; go_simp
    simp only [List.set_cons_succ, List.set_cons_zero, Nat.reduceAdd]
    apply RegT.T_pure (v := .bool true) rfl rfl rfl
    · intro W hR; clear hR; go_simp
    simp only [List.set_cons_succ, List.set_cons_zero, Nat.reduceAdd]
    apply RegT.T_pure (v := .bool true) rfl rfl rfl
    · intro W hR; clear hR; go_simp
    simp only [List.set_cons_succ, List.set_cons_zero, Nat.reduceAdd]
    apply RegT.T_skip rfl rfl rfl
    simp only [List.set_cons_succ, List.set_cons_zero, Nat.reduceAdd]
    apply RegT.T_skip rfl rfl rfl
    simp only [List.set_cons_succ, List.set_cons_zero, Nat.reduceAdd]
    apply RegT.T_skip rfl rfl rfl
    simp only [List.set_cons_succ, List.set_cons_zero, Nat.reduceAdd]
    apply RegT.T_skip rfl rfl rfl
    simp only [List.set_cons_succ, List.set_cons_zero, Nat.reduceAdd]
    apply RegT.T_pure (v := .bool true) rfl rfl rfl
    · intro W hR; clear hR; go_simp
    simp only [List.set_cons_succ, List.set_cons_zero, Nat.reduceAdd]
    apply RegT.T_pure (v := .bool true) rfl rfl rfl
    · intro W hR; clear hR; go_simp
    simp only [List.set_cons_succ, List.set_cons_zero, Nat.reduceAdd]
    apply RegT.T_skip rfl rfl rfl
    simp only [List.set_cons_succ, List.set_cons_zero, Nat.reduceAdd]
    apply RegT.T_skip rfl rfl rfl
    simp only [List.set_cons_succ, List.set_cons_zero, Nat.reduceAdd]
    apply RegT.T_skip rfl rfl rfl
    simp only [List.set_cons_succ, List.set_cons_zero, Nat.reduceAdd]
    apply RegT.T_skip rfl rfl rfl
    simp only [List.set_cons_succ, List.set_cons_zero, Nat.reduceAdd]
    apply RegT.T_pure (v := .bool true) rfl rfl rfl
    · intro W hR; clear hR; go_simp
    simp only [List.set_cons_succ, List.set_cons_zero, Nat.reduceAdd]
    refine RegT.T_end rfl (fun W5 hR hf => ?_)
    have HB5 := Lib.hid (HB0.out.trans (((Below.refl _ _).drew.trans hR).mono HB0.out.size))
    clear hR hf HX HK X0 X3 X5 X7 X8
    go_wp2
    go_ret
    exact ⟨rfl, HB5.out⟩
  · rfl
  · kernel_rfl
set_option maxRecDepth 100000 in
set_option maxHeartbeats 6400000 in
theorem rmay_5_w (k t r i a c : Nat) (y : Bool) (pl pd : Option Addr) (cl cd : Nat) (L : List Ent) (D : List UInt8) (bc : Array Value) (w : World) (g0 : ¬ k < 1) (g1 : ¬ 7 < k) (g3 : ¬ 4611686018427387904 < i) (g4 : ¬ 4611686018427387904 < c) (g5 : 16 < L.length) (hb : ∀ W, Keeps w W → Calls Try.prog 94 #[.agg #[.int .u8 (k : Int), .int .u64 (t : Int), .int .u64 (r : Int), .int .u64 (i : Int), .int .u64 (a : Int), .int .u64 (c : Int), .bool y, .slice pl L.length cl, .slice pd D.length cd]] W fun e w' => e = .returned (.agg bc) ∧ Below W.heap.size W w') (hs : ∀ W, Keeps w W → Calls Try.prog 20 #[.agg #[.int .u8 (k : Int), .int .u64 (t : Int), .int .u64 (r : Int), .int .u64 (i : Int), .int .u64 (a : Int), .int .u64 (c : Int), .bool y, .slice pl L.length cl, .slice pd D.length cd], .agg bc] W fun e w' => e = .returned (.bool true) ∧ Below W.heap.size W w') :
    Calls Try.prog 47 #[.agg #[.int .u8 (k : Int), .int .u64 (t : Int), .int .u64 (r : Int), .int .u64 (i : Int), .int .u64 (a : Int), .int .u64 (c : Int), .bool y, .slice pl L.length cl, .slice pd D.length cd]] w fun e w' => e = .returned (.bool (false)) ∧ Below w.heap.size w w' := by
  have e0a : decide (k < 1) = false := by simp; omega
  have e0b : decide ((k : Int) < 1) = false := by simp; omega
  have e1a : decide (7 < k) = false := by simp; omega
  have e1b : decide ((7 : Int) < (k : Int)) = false := by simp; omega
  have e3a : decide (4611686018427387904 < i) = false := by simp; omega
  have e3b : decide ((4611686018427387904 : Int) < (i : Int)) = false := by simp; omega
  have e4a : decide (4611686018427387904 < c) = false := by simp; omega
  have e4b : decide ((4611686018427387904 : Int) < (c : Int)) = false := by simp; omega
  have e5a : decide (16 < L.length) = true := by simp; omega
  have e5b : decide ((16 : Int) < (L.length : Int)) = true := by simp; omega
  have hB0 := (Below.refl w.heap.size w).alloc (Nat.le_refl _) (.cells #[.int .u8 (k : Int), .int .u64 (t : Int), .int .u64 (r : Int), .int .u64 (i : Int), .int .u64 (a : Int), .int .u64 (c : Int), .bool y, .slice pl L.length cl, .slice pd D.length cd] 31)
  have HB0 := Lib.hid hB0
  have hg : ∀ W, RegT.Grow (w.alloc (.cells #[.int .u8 (k : Int), .int .u64 (t : Int), .int .u64 (r : Int), .int .u64 (i : Int), .int .u64 (a : Int), .int .u64 (c : Int), .bool y, .slice pl L.length cl, .slice pd D.length cd] 31)).drew W → Keeps (w.alloc (.cells #[.int .u8 (k : Int), .int .u64 (t : Int), .int .u64 (r : Int), .int .u64 (i : Int), .int .u64 (a : Int), .int .u64 (c : Int), .bool y, .slice pl L.length cl, .slice pd D.length cd] 31)) W := fun W hR => (Keeps.refl _).drew.trans hR.block
  have HX := Lib.hid (fun (W : World) (hR : RegT.Grow (w.alloc (.cells #[.int .u8 (k : Int), .int .u64 (t : Int), .int .u64 (r : Int), .int .u64 (i : Int), .int .u64 (a : Int), .int .u64 (c : Int), .bool y, .slice pl L.length cl, .slice pd D.length cd] 31)).drew W) => (NcAt.new w #[.int .u8 (k : Int), .int .u64 (t : Int), .int .u64 (r : Int), .int .u64 (i : Int), .int .u64 (a : Int), .int .u64 (c : Int), .bool y, .slice pl L.length cl, .slice pd D.length cd]).keeps (hg W hR))
  have HK := Lib.hid (fun (W : World) (hR : RegT.Grow (w.alloc (.cells #[.int .u8 (k : Int), .int .u64 (t : Int), .int .u64 (r : Int), .int .u64 (i : Int), .int .u64 (a : Int), .int .u64 (c : Int), .bool y, .slice pl L.length cl, .slice pd D.length cd] 31)).drew W) => (show Keeps w W from Keeps.trans hB0.block (hg W hR)))
  have X0 := Lib.hid (fun (W : World) (hR : RegT.Grow (w.alloc (.cells #[.int .u8 (k : Int), .int .u64 (t : Int), .int .u64 (r : Int), .int .u64 (i : Int), .int .u64 (a : Int), .int .u64 (c : Int), .bool y, .slice pl L.length cl, .slice pd D.length cd] 31)).drew W) => (show W.cell? ⟨w.heap.size, 0, none⟩ = some (.int .u8 (k : Int)) from by rw [cell_of_row _ _ _ _ _ _ (HX.out W hR)]; rfl))
  have X3 := Lib.hid (fun (W : World) (hR : RegT.Grow (w.alloc (.cells #[.int .u8 (k : Int), .int .u64 (t : Int), .int .u64 (r : Int), .int .u64 (i : Int), .int .u64 (a : Int), .int .u64 (c : Int), .bool y, .slice pl L.length cl, .slice pd D.length cd] 31)).drew W) => (show W.cell? ⟨w.heap.size, 3, none⟩ = some (.int .u64 (i : Int)) from by rw [cell_of_row _ _ _ _ _ _ (HX.out W hR)]; rfl))
  have X5 := Lib.hid (fun (W : World) (hR : RegT.Grow (w.alloc (.cells #[.int .u8 (k : Int), .int .u64 (t : Int), .int .u64 (r : Int), .int .u64 (i : Int), .int .u64 (a : Int), .int .u64 (c : Int), .bool y, .slice pl L.length cl, .slice pd D.length cd] 31)).drew W) => (show W.cell? ⟨w.heap.size, 5, none⟩ = some (.int .u64 (c : Int)) from by rw [cell_of_row _ _ _ _ _ _ (HX.out W hR)]; rfl))
  have X7 := Lib.hid (fun (W : World) (hR : RegT.Grow (w.alloc (.cells #[.int .u8 (k : Int), .int .u64 (t : Int), .int .u64 (r : Int), .int .u64 (i : Int), .int .u64 (a : Int), .int .u64 (c : Int), .bool y, .slice pl L.length cl, .slice pd D.length cd] 31)).drew W) => (show W.cell? ⟨w.heap.size, 7, none⟩ = some (.slice pl L.length cl) from by rw [cell_of_row _ _ _ _ _ _ (HX.out W hR)]; rfl))
  have X8 := Lib.hid (fun (W : World) (hR : RegT.Grow (w.alloc (.cells #[.int .u8 (k : Int), .int .u64 (t : Int), .int .u64 (r : Int), .int .u64 (i : Int), .int .u64 (a : Int), .int .u64 (c : Int), .bool y, .slice pl L.length cl, .slice pd D.length cd] 31)).drew W) => (show W.cell? ⟨w.heap.size, 8, none⟩ = some (.slice pd D.length cd) from by rw [cell_of_row _ _ _ _ _ _ (HX.out W hR)]; rfl))
  have Hb := Lib.hid hb
  have Hs := Lib.hid hs
  clear hB0 hg hb hs g0 g1 g3 g4 g5
  go_enter Try.func47, Try.ntmps47
  go_wp2
  apply RegT.wp_region_T rfl 56 37 rfl (by kernel_rfl) RegT.Grow RegT.Grow.refl RegT.Grow.trans
  · apply RegT.T_pure rfl rfl rfl
    · intro W hR; clear hR; go_simp; rfl
    simp only [List.set_cons_succ, List.set_cons_zero, Nat.reduceAdd]
    apply RegT.T_pure rfl rfl rfl
    · intro W hR
      have hc := X0.out W hR
      clear hR
      go_simp; rfl
    simp only [List.set_cons_succ, List.set_cons_zero, Nat.reduceAdd]
    apply RegT.T_pure (v := .bool false) rfl rfl rfl
    · intro W hR; clear hR; go_simp
    simp only [List.set_cons_succ, List.set_cons_zero, Nat.reduceAdd]
    apply RegT.T_pure (v := .bool false) rfl rfl rfl
    · intro W hR; clear hR; go_simp
    simp only [List.set_cons_succ, List.set_cons_zero, Nat.reduceAdd]
    apply RegT.T_pure rfl rfl rfl
    · intro W hR; clear hR; go_simp; rfl
    simp only [List.set_cons_succ, List.set_cons_zero, Nat.reduceAdd]
    apply RegT.T_pure rfl rfl rfl
    · intro W hR
      have hc := X0.out W hR
      clear hR
      go_simp; rfl
    simp only [List.set_cons_succ, List.set_cons_zero, Nat.reduceAdd]
    apply RegT.T_pure (v := .bool false) rfl rfl rfl
    · intro W hR; clear hR; go_simp
    simp only [List.set_cons_succ, List.set_cons_zero, Nat.reduceAdd]
    apply RegT.T_pure (v := .bool false) rfl rfl rfl
    · intro W hR; clear hR; go_simp
    simp only [List.set_cons_succ, List.set_cons_zero, Nat.reduceAdd]
    apply RegT.T_pure (v := .bool false) rfl rfl rfl
    · intro W hR; clear hR; go_simp
    simp only [List.set_cons_succ, List.set_cons_zero, Nat.reduceAdd]
    apply RegT.T_pure rfl rfl rfl
    · exact fun W hR => load_nc (.tmp 1) rfl rfl (HX.out W hR) rfl
    simp only [List.set_cons_succ, List.set_cons_zero, Nat.reduceAdd]
    apply RegT.T_pure rfl rfl rfl
    · exact fun W hR => load_nc (.tmp 1) rfl rfl (HX.out W hR) rfl
    simp only [List.set_cons_succ, List.set_cons_zero, Nat.reduceAdd]
    apply RegT.T_const rfl rfl rfl (.agg bc) (fun _ _ h => h)
    · intro W hR hf
      have Hc := Lib.hid (Hb.out W (HK.out W hR))
      clear hR hf
      go_simp
      exact RegT.OpOK_enter Hc.out (fun e w' h => ⟨_, h.1, rfl, h.2⟩)
    simp only [List.set_cons_succ, List.set_cons_zero, Nat.reduceAdd]
    apply RegT.T_const rfl rfl rfl (.bool true) (fun _ _ h => h)
    · intro W hR hf
      have Hc := Lib.hid (Hs.out W (HK.out W hR))
      clear hR hf
      go_simp
      exact RegT.OpOK_enter Hc.out (fun e w' h => ⟨_, h.1, rfl, h.2⟩)
    simp only [List.set_cons_succ, List.set_cons_zero, Nat.reduceAdd]
    apply RegT.T_pure (v := .bool false) rfl rfl rfl
    · intro W hR; clear hR; go_simp
    simp only [List.set_cons_succ, List.set_cons_zero, Nat.reduceAdd]
    apply RegT.T_pure (v := .bool false) rfl rfl rfl
    · intro W hR; clear hR; go_simp
    simp only [List.set_cons_succ, List.set_cons_zero, Nat.reduceAdd]
    apply RegT.T_pure (v := .bool false) rfl rfl rfl
    · intro W hR; clear hR; go_simp
    simp only [List.set_cons_succ, List.set_cons_zero, Nat.reduceAdd]
    apply RegT.T_pure rfl rfl rfl
    · intro W hR; clear hR; go_simp; rfl
    simp only [List.set_cons_succ, List.set_cons_zero, Nat.reduceAdd]
    apply RegT.T_pure rfl rfl rfl
    · intro W hR
      have hc := X3.out W hR
      clear hR
      go_simp; rfl
    simp only [List.set_cons_succ, List.set_cons_zero, Nat.reduceAdd]
    apply RegT.T_pure (v := .bool false) rfl rfl rfl
    · intro W hR; clear hR; go_simp
    simp only [List.set_cons_succ, List.set_cons_zero, Nat.reduceAdd]
    apply RegT.T_pure (v := .bool false) rfl rfl rfl
    · intro W hR; clear hR; go_simp
    simp only [List.set_cons_succ, List.set_cons_zero, Nat.reduceAdd]
    apply RegT.T_pure (v := .bool false) rfl rfl rfl
    · intro W hR; clear hR; go_simp
    simp only [List.set_cons_succ, List.set_cons_zero, Nat.reduceAdd]
    apply RegT.T_pure rfl rfl rfl
    · intro W hR; clear hR; go_simp; rfl
    simp only [List.set_cons_succ, List.set_cons_zero, Nat.reduceAdd]
    apply RegT.T_pure rfl rfl rfl
    · intro W hR
      have hc := X5.out W hR
      clear hR
      go_simp; rfl
    simp only [List.set_cons_succ, List.set_cons_zero, Nat.reduceAdd]
    apply RegT.T_pure (v := .bool false) rfl rfl rfl
    · intro W hR; clear hR; go_simp
    simp only [List.set_cons_succ, List.set_cons_zero, Nat.reduceAdd]
    apply RegT.T_pure (v := .bool false) rfl rfl rfl
    · intro W hR; clear hR; go_simp
    simp only [List.set_cons_succ, List.set_cons_zero, Nat.reduceAdd]
    apply RegT.T_pure (v := .bool false) rfl rfl rfl
    · intro W hR; clear hR; go_simp
    simp only [List.set_cons_succ, List.set_cons_zero, Nat.reduceAdd]
    apply RegT.T_pure rfl rfl rfl
    · intro W hR; clear hR; go_simp; rfl
    simp only [List.set_cons_succ, List.set_cons_zero, Nat.reduceAdd]
    apply RegT.T_pure rfl rfl rfl
    · intro W hR
      have hc := X7.out W hR
      clear hR
      go_simp; rfl
    simp only [List.set_cons_succ, List.set_cons_zero, Nat.reduceAdd]
    apply RegT.T_pure rfl rfl rfl
    · intro W hR; clear hR; go_simp; rfl
    simp only [List.set_cons_succ, List.set_cons_zero, Nat.reduceAdd]
    apply RegT.T_pure (v := .bool true) rfl rfl rfl
    · intro W hR; clear hR; go_simp
    simp only [List.set_cons_succ, List.set_cons_zero, Nat.reduceAdd]
    apply RegT.T_pure (v := .bool true) rfl rfl rfl
    · intro W hR; clear hR; go_simp
    simp only [List.set_cons_succ, List.set_cons_zero, Nat.reduceAdd]
    apply RegT.T_pure (v := .bool true) rfl rfl rfl
    · intro W hR; clear hR; go_simp
    simp only [List.set_cons_succ, List.set_cons_zero, Nat.reduceAdd]
    apply RegT.T_skip rfl rfl rfl
    simp only [List.set_cons_succ, List.set_cons_zero, Nat.reduceAdd]
    apply RegT.T_skip rfl rfl rfl
    simp only [List.set_cons_succ, List.set_cons_zero, Nat.reduceAdd]
    apply RegT.T_skip rfl rfl rfl
    simp only [List.set_cons_succ, List.set_cons_zero, Nat.reduceAdd]
    apply RegT.T_skip rfl rfl rfl
    simp only [List.set_cons_succ, List.set_cons_zero, Nat.reduceAdd]
    apply RegT.T_pure (v := .bool true) rfl rfl rfl
    · intro W hR; clear hR; go_simp
    simp only [List.set_cons_succ, List.set_cons_zero, Nat.reduceAdd]
    refine RegT.T_end rfl (fun W5 hR hf => ?_)
    have HB5 := Lib.hid (HB0.out.trans (((Below.refl _ _).drew.trans hR).mono HB0.out.size))
    clear hR hf HX HK X0 X3 X5 X7 X8
    go_wp2
    go_ret
    exact ⟨rfl, HB5.out⟩
  · rfl
  · kernel_rfl
set_option maxRecDepth 100000 in
set_option maxHeartbeats 6400000 in
theorem rmay_6_w (k t r i a c : Nat) (y : Bool) (pl pd : Option Addr) (cl cd : Nat) (L : List Ent) (D : List UInt8) (bc : Array Value) (w : World) (g0 : ¬ k < 1) (g1 : ¬ 7 < k) (g3 : ¬ 4611686018427387904 < i) (g4 : ¬ 4611686018427387904 < c) (g5 : ¬ 16 < L.length) (g6 : 524288 < D.length) (hb : ∀ W, Keeps w W → Calls Try.prog 94 #[.agg #[.int .u8 (k : Int), .int .u64 (t : Int), .int .u64 (r : Int), .int .u64 (i : Int), .int .u64 (a : Int), .int .u64 (c : Int), .bool y, .slice pl L.length cl, .slice pd D.length cd]] W fun e w' => e = .returned (.agg bc) ∧ Below W.heap.size W w') (hs : ∀ W, Keeps w W → Calls Try.prog 20 #[.agg #[.int .u8 (k : Int), .int .u64 (t : Int), .int .u64 (r : Int), .int .u64 (i : Int), .int .u64 (a : Int), .int .u64 (c : Int), .bool y, .slice pl L.length cl, .slice pd D.length cd], .agg bc] W fun e w' => e = .returned (.bool true) ∧ Below W.heap.size W w') :
    Calls Try.prog 47 #[.agg #[.int .u8 (k : Int), .int .u64 (t : Int), .int .u64 (r : Int), .int .u64 (i : Int), .int .u64 (a : Int), .int .u64 (c : Int), .bool y, .slice pl L.length cl, .slice pd D.length cd]] w fun e w' => e = .returned (.bool (false)) ∧ Below w.heap.size w w' := by
  have e0a : decide (k < 1) = false := by simp; omega
  have e0b : decide ((k : Int) < 1) = false := by simp; omega
  have e1a : decide (7 < k) = false := by simp; omega
  have e1b : decide ((7 : Int) < (k : Int)) = false := by simp; omega
  have e3a : decide (4611686018427387904 < i) = false := by simp; omega
  have e3b : decide ((4611686018427387904 : Int) < (i : Int)) = false := by simp; omega
  have e4a : decide (4611686018427387904 < c) = false := by simp; omega
  have e4b : decide ((4611686018427387904 : Int) < (c : Int)) = false := by simp; omega
  have e5a : decide (16 < L.length) = false := by simp; omega
  have e5b : decide ((16 : Int) < (L.length : Int)) = false := by simp; omega
  have e6a : decide (524288 < D.length) = true := by simp; omega
  have e6b : decide ((524288 : Int) < (D.length : Int)) = true := by simp; omega
  have hB0 := (Below.refl w.heap.size w).alloc (Nat.le_refl _) (.cells #[.int .u8 (k : Int), .int .u64 (t : Int), .int .u64 (r : Int), .int .u64 (i : Int), .int .u64 (a : Int), .int .u64 (c : Int), .bool y, .slice pl L.length cl, .slice pd D.length cd] 31)
  have HB0 := Lib.hid hB0
  have hg : ∀ W, RegT.Grow (w.alloc (.cells #[.int .u8 (k : Int), .int .u64 (t : Int), .int .u64 (r : Int), .int .u64 (i : Int), .int .u64 (a : Int), .int .u64 (c : Int), .bool y, .slice pl L.length cl, .slice pd D.length cd] 31)).drew W → Keeps (w.alloc (.cells #[.int .u8 (k : Int), .int .u64 (t : Int), .int .u64 (r : Int), .int .u64 (i : Int), .int .u64 (a : Int), .int .u64 (c : Int), .bool y, .slice pl L.length cl, .slice pd D.length cd] 31)) W := fun W hR => (Keeps.refl _).drew.trans hR.block
  have HX := Lib.hid (fun (W : World) (hR : RegT.Grow (w.alloc (.cells #[.int .u8 (k : Int), .int .u64 (t : Int), .int .u64 (r : Int), .int .u64 (i : Int), .int .u64 (a : Int), .int .u64 (c : Int), .bool y, .slice pl L.length cl, .slice pd D.length cd] 31)).drew W) => (NcAt.new w #[.int .u8 (k : Int), .int .u64 (t : Int), .int .u64 (r : Int), .int .u64 (i : Int), .int .u64 (a : Int), .int .u64 (c : Int), .bool y, .slice pl L.length cl, .slice pd D.length cd]).keeps (hg W hR))
  have HK := Lib.hid (fun (W : World) (hR : RegT.Grow (w.alloc (.cells #[.int .u8 (k : Int), .int .u64 (t : Int), .int .u64 (r : Int), .int .u64 (i : Int), .int .u64 (a : Int), .int .u64 (c : Int), .bool y, .slice pl L.length cl, .slice pd D.length cd] 31)).drew W) => (show Keeps w W from Keeps.trans hB0.block (hg W hR)))
  have X0 := Lib.hid (fun (W : World) (hR : RegT.Grow (w.alloc (.cells #[.int .u8 (k : Int), .int .u64 (t : Int), .int .u64 (r : Int), .int .u64 (i : Int), .int .u64 (a : Int), .int .u64 (c : Int), .bool y, .slice pl L.length cl, .slice pd D.length cd] 31)).drew W) => (show W.cell? ⟨w.heap.size, 0, none⟩ = some (.int .u8 (k : Int)) from by rw [cell_of_row _ _ _ _ _ _ (HX.out W hR)]; rfl))
  have X3 := Lib.hid (fun (W : World) (hR : RegT.Grow (w.alloc (.cells #[.int .u8 (k : Int), .int .u64 (t : Int), .int .u64 (r : Int), .int .u64 (i : Int), .int .u64 (a : Int), .int .u64 (c : Int), .bool y, .slice pl L.length cl, .slice pd D.length cd] 31)).drew W) => (show W.cell? ⟨w.heap.size, 3, none⟩ = some (.int .u64 (i : Int)) from by rw [cell_of_row _ _ _ _ _ _ (HX.out W hR)]; rfl))
  have X5 := Lib.hid (fun (W : World) (hR : RegT.Grow (w.alloc (.cells #[.int .u8 (k : Int), .int .u64 (t : Int), .int .u64 (r : Int), .int .u64 (i : Int), .int .u64 (a : Int), .int .u64 (c : Int), .bool y, .slice pl L.length cl, .slice pd D.length cd] 31)).drew W) => (show W.cell? ⟨w.heap.size, 5, none⟩ = some (.int .u64 (c : Int)) from by rw [cell_of_row _ _ _ _ _ _ (HX.out W hR)]; rfl))
  have X7 := Lib.hid (fun (W : World) (hR : RegT.Grow (w.alloc (.cells #[.int .u8 (k : Int), .int .u64 (t : Int), .int .u64 (r : Int), .int .u64 (i : Int), .int .u64 (a : Int), .int .u64 (c : Int), .bool y, .slice pl L.length cl, .slice pd D.length cd] 31)).drew W) => (show W.cell? ⟨w.heap.size, 7, none⟩ = some (.slice pl L.length cl) from by rw [cell_of_row _ _ _ _ _ _ (HX.out W hR)]; rfl))
  have X8 := Lib.hid (fun (W : World) (hR : RegT.Grow (w.alloc (.cells #[.int .u8 (k : Int), .int .u64 (t : Int), .int .u64 (r : Int), .int .u64 (i : Int), .int .u64 (a : Int), .int .u64 (c : Int), .bool y, .slice pl L.length cl, .slice pd D.length cd] 31)).drew W) => (show W.cell? ⟨w.heap.size, 8, none⟩ = some (.slice pd D.length cd) from by rw [cell_of_row _ _ _ _ _ _ (HX.out W hR)]; rfl))
  have Hb := Lib.hid hb
  have Hs := Lib.hid hs
  clear hB0 hg hb hs g0 g1 g3 g4 g5 g6
  go_enter Try.func47, Try.ntmps47
  go_wp2
  apply RegT.wp_region_T rfl 56 37 rfl (by kernel_rfl) RegT.Grow RegT.Grow.refl RegT.Grow.trans
  · apply RegT.T_pure rfl rfl rfl
    · intro W hR; clear hR; go_simp; rfl
    simp only [List.set_cons_succ, List.set_cons_zero, Nat.reduceAdd]
    apply RegT.T_pure rfl rfl rfl
    · intro W hR
      have hc := X0.out W hR
      clear hR
      go_simp; rfl
    simp only [List.set_cons_succ, List.set_cons_zero, Nat.reduceAdd]
    apply RegT.T_pure (v := .bool false) rfl rfl rfl
    · intro W hR; clear hR; go_simp
    simp only [List.set_cons_succ, List.set_cons_zero, Nat.reduceAdd]
    apply RegT.T_pure (v := .bool false) rfl rfl rfl
    · intro W hR; clear hR; go_simp
    simp only [List.set_cons_succ, List.set_cons_zero, Nat.reduceAdd]
    apply RegT.T_pure rfl rfl rfl
    · intro W hR; clear hR; go_simp; rfl
    simp only [List.set_cons_succ, List.set_cons_zero, Nat.reduceAdd]
    apply RegT.T_pure rfl rfl rfl
    · intro W hR
      have hc := X0.out W hR
      clear hR
      go_simp; rfl
    simp only [List.set_cons_succ, List.set_cons_zero, Nat.reduceAdd]
    apply RegT.T_pure (v := .bool false) rfl rfl rfl
    · intro W hR; clear hR; go_simp
    simp only [List.set_cons_succ, List.set_cons_zero, Nat.reduceAdd]
    apply RegT.T_pure (v := .bool false) rfl rfl rfl
    · intro W hR; clear hR; go_simp
    simp only [List.set_cons_succ, List.set_cons_zero, Nat.reduceAdd]
    apply RegT.T_pure (v := .bool false) rfl rfl rfl
    · intro W hR; clear hR; go_simp
    simp only [List.set_cons_succ, List.set_cons_zero, Nat.reduceAdd]
    apply RegT.T_pure rfl rfl rfl
    · exact fun W hR => load_nc (.tmp 1) rfl rfl (HX.out W hR) rfl
    simp only [List.set_cons_succ, List.set_cons_zero, Nat.reduceAdd]
    apply RegT.T_pure rfl rfl rfl
    · exact fun W hR => load_nc (.tmp 1) rfl rfl (HX.out W hR) rfl
    simp only [List.set_cons_succ, List.set_cons_zero, Nat.reduceAdd]
    apply RegT.T_const rfl rfl rfl (.agg bc) (fun _ _ h => h)
    · intro W hR hf
      have Hc := Lib.hid (Hb.out W (HK.out W hR))
      clear hR hf
      go_simp
      exact RegT.OpOK_enter Hc.out (fun e w' h => ⟨_, h.1, rfl, h.2⟩)
    simp only [List.set_cons_succ, List.set_cons_zero, Nat.reduceAdd]
    apply RegT.T_const rfl rfl rfl (.bool true) (fun _ _ h => h)
    · intro W hR hf
      have Hc := Lib.hid (Hs.out W (HK.out W hR))
      clear hR hf
      go_simp
      exact RegT.OpOK_enter Hc.out (fun e w' h => ⟨_, h.1, rfl, h.2⟩)
    simp only [List.set_cons_succ, List.set_cons_zero, Nat.reduceAdd]
    apply RegT.T_pure (v := .bool false) rfl rfl rfl
    · intro W hR; clear hR; go_simp
    simp only [List.set_cons_succ, List.set_cons_zero, Nat.reduceAdd]
    apply RegT.T_pure (v := .bool false) rfl rfl rfl
    · intro W hR; clear hR; go_simp
    simp only [List.set_cons_succ, List.set_cons_zero, Nat.reduceAdd]
    apply RegT.T_pure (v := .bool false) rfl rfl rfl
    · intro W hR; clear hR; go_simp
    simp only [List.set_cons_succ, List.set_cons_zero, Nat.reduceAdd]
    apply RegT.T_pure rfl rfl rfl
    · intro W hR; clear hR; go_simp; rfl
    simp only [List.set_cons_succ, List.set_cons_zero, Nat.reduceAdd]
    apply RegT.T_pure rfl rfl rfl
    · intro W hR
      have hc := X3.out W hR
      clear hR
      go_simp; rfl
    simp only [List.set_cons_succ, List.set_cons_zero, Nat.reduceAdd]
    apply RegT.T_pure (v := .bool false) rfl rfl rfl
    · intro W hR; clear hR; go_simp
    simp only [List.set_cons_succ, List.set_cons_zero, Nat.reduceAdd]
    apply RegT.T_pure (v := .bool false) rfl rfl rfl
    · intro W hR; clear hR; go_simp
    simp only [List.set_cons_succ, List.set_cons_zero, Nat.reduceAdd]
    apply RegT.T_pure (v := .bool false) rfl rfl rfl
    · intro W hR; clear hR; go_simp
    simp only [List.set_cons_succ, List.set_cons_zero, Nat.reduceAdd]
    apply RegT.T_pure rfl rfl rfl
    · intro W hR; clear hR; go_simp; rfl
    simp only [List.set_cons_succ, List.set_cons_zero, Nat.reduceAdd]
    apply RegT.T_pure rfl rfl rfl
    · intro W hR
      have hc := X5.out W hR
      clear hR
      go_simp; rfl
    simp only [List.set_cons_succ, List.set_cons_zero, Nat.reduceAdd]
    apply RegT.T_pure (v := .bool false) rfl rfl rfl
    · intro W hR; clear hR; go_simp
    simp only [List.set_cons_succ, List.set_cons_zero, Nat.reduceAdd]
    apply RegT.T_pure (v := .bool false) rfl rfl rfl
    · intro W hR; clear hR; go_simp
    simp only [List.set_cons_succ, List.set_cons_zero, Nat.reduceAdd]
    apply RegT.T_pure (v := .bool false) rfl rfl rfl
    · intro W hR; clear hR; go_simp
    simp only [List.set_cons_succ, List.set_cons_zero, Nat.reduceAdd]
    apply RegT.T_pure rfl rfl rfl
    · intro W hR; clear hR; go_simp; rfl
    simp only [List.set_cons_succ, List.set_cons_zero, Nat.reduceAdd]
    apply RegT.T_pure rfl rfl rfl
    · intro W hR
      have hc := X7.out W hR
      clear hR
      go_simp; rfl
    simp only [List.set_cons_succ, List.set_cons_zero, Nat.reduceAdd]
    apply RegT.T_pure rfl rfl rfl
    · intro W hR; clear hR; go_simp; rfl
    simp only [List.set_cons_succ, List.set_cons_zero, Nat.reduceAdd]
    apply RegT.T_pure (v := .bool false) rfl rfl rfl
    · intro W hR; clear hR; go_simp
    simp only [List.set_cons_succ, List.set_cons_zero, Nat.reduceAdd]
    apply RegT.T_pure (v := .bool false) rfl rfl rfl
    · intro W hR; clear hR; go_simp
    simp only [List.set_cons_succ, List.set_cons_zero, Nat.reduceAdd]
    apply RegT.T_pure (v := .bool false) rfl rfl rfl
    · intro W hR; clear hR; go_simp
    simp only [List.set_cons_succ, List.set_cons_zero, Nat.reduceAdd]
    apply RegT.T_pure rfl rfl rfl
    · intro W hR; clear hR; go_simp; rfl
    simp only [List.set_cons_succ, List.set_cons_zero, Nat.reduceAdd]
    apply RegT.T_pure rfl rfl rfl
    · intro W hR
      have hc := X8.out W hR
      clear hR
      go_simp; rfl
    simp only [List.set_cons_succ, List.set_cons_zero, Nat.reduceAdd]
    apply RegT.T_pure rfl rfl rfl
    · intro W hR; clear hR; go_simp; rfl
    simp only [List.set_cons_succ, List.set_cons_zero, Nat.reduceAdd]
    apply RegT.T_pure (v := .bool true) rfl rfl rfl
    · intro W hR; clear hR; go_simp
    simp only [List.set_cons_succ, List.set_cons_zero, Nat.reduceAdd]
    apply RegT.T_pure (v := .bool true) rfl rfl rfl
    · intro W hR; clear hR; go_simp
    simp only [List.set_cons_succ, List.set_cons_zero, Nat.reduceAdd]
    refine RegT.T_end rfl (fun W5 hR hf => ?_)
    have HB5 := Lib.hid (HB0.out.trans (((Below.refl _ _).drew.trans hR).mono HB0.out.size))
    clear hR hf HX HK X0 X3 X5 X7 X8
    go_wp2
    go_ret
    exact ⟨rfl, HB5.out⟩
  · rfl
  · kernel_rfl
set_option maxRecDepth 100000 in
set_option maxHeartbeats 6400000 in
theorem rmay_7_w (k t r i a c : Nat) (y : Bool) (pl pd : Option Addr) (cl cd : Nat) (L : List Ent) (D : List UInt8) (bc : Array Value) (w : World) (g0 : ¬ k < 1) (g1 : ¬ 7 < k) (g3 : ¬ 4611686018427387904 < i) (g4 : ¬ 4611686018427387904 < c) (g5 : ¬ 16 < L.length) (g6 : ¬ 524288 < D.length) (hb : ∀ W, Keeps w W → Calls Try.prog 94 #[.agg #[.int .u8 (k : Int), .int .u64 (t : Int), .int .u64 (r : Int), .int .u64 (i : Int), .int .u64 (a : Int), .int .u64 (c : Int), .bool y, .slice pl L.length cl, .slice pd D.length cd]] W fun e w' => e = .returned (.agg bc) ∧ Below W.heap.size W w') (hs : ∀ W, Keeps w W → Calls Try.prog 20 #[.agg #[.int .u8 (k : Int), .int .u64 (t : Int), .int .u64 (r : Int), .int .u64 (i : Int), .int .u64 (a : Int), .int .u64 (c : Int), .bool y, .slice pl L.length cl, .slice pd D.length cd], .agg bc] W fun e w' => e = .returned (.bool true) ∧ Below W.heap.size W w') (S : Foot) (hL : EsR w S (.slice pl L.length cl) L) (hn : L.length ≤ 1000000) :
    Calls Try.prog 47 #[.agg #[.int .u8 (k : Int), .int .u64 (t : Int), .int .u64 (r : Int), .int .u64 (i : Int), .int .u64 (a : Int), .int .u64 (c : Int), .bool y, .slice pl L.length cl, .slice pd D.length cd]] w fun e w' => e = .returned (.bool (!(anyLong L))) ∧ Below w.heap.size w w' := by
  have e0a : decide (k < 1) = false := by simp; omega
  have e0b : decide ((k : Int) < 1) = false := by simp; omega
  have e1a : decide (7 < k) = false := by simp; omega
  have e1b : decide ((7 : Int) < (k : Int)) = false := by simp; omega
  have e3a : decide (4611686018427387904 < i) = false := by simp; omega
  have e3b : decide ((4611686018427387904 : Int) < (i : Int)) = false := by simp; omega
  have e4a : decide (4611686018427387904 < c) = false := by simp; omega
  have e4b : decide ((4611686018427387904 : Int) < (c : Int)) = false := by simp; omega
  have e5a : decide (16 < L.length) = false := by simp; omega
  have e5b : decide ((16 : Int) < (L.length : Int)) = false := by simp; omega
  have e6a : decide (524288 < D.length) = false := by simp; omega
  have e6b : decide ((524288 : Int) < (D.length : Int)) = false := by simp; omega
  have hB0 := (Below.refl w.heap.size w).alloc (Nat.le_refl _) (.cells #[.int .u8 (k : Int), .int .u64 (t : Int), .int .u64 (r : Int), .int .u64 (i : Int), .int .u64 (a : Int), .int .u64 (c : Int), .bool y, .slice pl L.length cl, .slice pd D.length cd] 31)
  have HB0 := Lib.hid hB0
  have hg : ∀ W, RegT.Grow (w.alloc (.cells #[.int .u8 (k : Int), .int .u64 (t : Int), .int .u64 (r : Int), .int .u64 (i : Int), .int .u64 (a : Int), .int .u64 (c : Int), .bool y, .slice pl L.length cl, .slice pd D.length cd] 31)).drew W → Keeps (w.alloc (.cells #[.int .u8 (k : Int), .int .u64 (t : Int), .int .u64 (r : Int), .int .u64 (i : Int), .int .u64 (a : Int), .int .u64 (c : Int), .bool y, .slice pl L.length cl, .slice pd D.length cd] 31)) W := fun W hR => (Keeps.refl _).drew.trans hR.block
  have HX := Lib.hid (fun (W : World) (hR : RegT.Grow (w.alloc (.cells #[.int .u8 (k : Int), .int .u64 (t : Int), .int .u64 (r : Int), .int .u64 (i : Int), .int .u64 (a : Int), .int .u64 (c : Int), .bool y, .slice pl L.length cl, .slice pd D.length cd] 31)).drew W) => (NcAt.new w #[.int .u8 (k : Int), .int .u64 (t : Int), .int .u64 (r : Int), .int .u64 (i : Int), .int .u64 (a : Int), .int .u64 (c : Int), .bool y, .slice pl L.length cl, .slice pd D.length cd]).keeps (hg W hR))
  have HK := Lib.hid (fun (W : World) (hR : RegT.Grow (w.alloc (.cells #[.int .u8 (k : Int), .int .u64 (t : Int), .int .u64 (r : Int), .int .u64 (i : Int), .int .u64 (a : Int), .int .u64 (c : Int), .bool y, .slice pl L.length cl, .slice pd D.length cd] 31)).drew W) => (show Keeps w W from Keeps.trans hB0.block (hg W hR)))
  have X0 := Lib.hid (fun (W : World) (hR : RegT.Grow (w.alloc (.cells #[.int .u8 (k : Int), .int .u64 (t : Int), .int .u64 (r : Int), .int .u64 (i : Int), .int .u64 (a : Int), .int .u64 (c : Int), .bool y, .slice pl L.length cl, .slice pd D.length cd] 31)).drew W) => (show W.cell? ⟨w.heap.size, 0, none⟩ = some (.int .u8 (k : Int)) from by rw [cell_of_row _ _ _ _ _ _ (HX.out W hR)]; rfl))
  have X3 := Lib.hid (fun (W : World) (hR : RegT.Grow (w.alloc (.cells #[.int .u8 (k : Int), .int .u64 (t : Int), .int .u64 (r : Int), .int .u64 (i : Int), .int .u64 (a : Int), .int .u64 (c : Int), .bool y, .slice pl L.length cl, .slice pd D.length cd] 31)).drew W) => (show W.cell? ⟨w.heap.size, 3, none⟩ = some (.int .u64 (i : Int)) from by rw [cell_of_row _ _ _ _ _ _ (HX.out W hR)]; rfl))
  have X5 := Lib.hid (fun (W : World) (hR : RegT.Grow (w.alloc (.cells #[.int .u8 (k : Int), .int .u64 (t : Int), .int .u64 (r : Int), .int .u64 (i : Int), .int .u64 (a : Int), .int .u64 (c : Int), .bool y, .slice pl L.length cl, .slice pd D.length cd] 31)).drew W) => (show W.cell? ⟨w.heap.size, 5, none⟩ = some (.int .u64 (c : Int)) from by rw [cell_of_row _ _ _ _ _ _ (HX.out W hR)]; rfl))
  have X7 := Lib.hid (fun (W : World) (hR : RegT.Grow (w.alloc (.cells #[.int .u8 (k : Int), .int .u64 (t : Int), .int .u64 (r : Int), .int .u64 (i : Int), .int .u64 (a : Int), .int .u64 (c : Int), .bool y, .slice pl L.length cl, .slice pd D.length cd] 31)).drew W) => (show W.cell? ⟨w.heap.size, 7, none⟩ = some (.slice pl L.length cl) from by rw [cell_of_row _ _ _ _ _ _ (HX.out W hR)]; rfl))
  have X8 := Lib.hid (fun (W : World) (hR : RegT.Grow (w.alloc (.cells #[.int .u8 (k : Int), .int .u64 (t : Int), .int .u64 (r : Int), .int .u64 (i : Int), .int .u64 (a : Int), .int .u64 (c : Int), .bool y, .slice pl L.length cl, .slice pd D.length cd] 31)).drew W) => (show W.cell? ⟨w.heap.size, 8, none⟩ = some (.slice pd D.length cd) from by rw [cell_of_row _ _ _ _ _ _ (HX.out W hR)]; rfl))
  have Hb := Lib.hid hb
  have Hs := Lib.hid hs
  have HL := Lib.hid (hL.keeps hB0.block)
  clear hB0 hg hb hs hL g0 g1 g3 g4 g5 g6
  go_enter Try.func47, Try.ntmps47
  go_wp2
  apply RegT.wp_region_T rfl 56 37 rfl (by kernel_rfl) RegT.Grow RegT.Grow.refl RegT.Grow.trans
  · apply RegT.T_pure rfl rfl rfl
    · intro W hR; clear hR; go_simp; rfl
    simp only [List.set_cons_succ, List.set_cons_zero, Nat.reduceAdd]
    apply RegT.T_pure rfl rfl rfl
    · intro W hR
      have hc := X0.out W hR
      clear hR
      go_simp; rfl
    simp only [List.set_cons_succ, List.set_cons_zero, Nat.reduceAdd]
    apply RegT.T_pure (v := .bool false) rfl rfl rfl
    · intro W hR; clear hR; go_simp
    simp only [List.set_cons_succ, List.set_cons_zero, Nat.reduceAdd]
    apply RegT.T_pure (v := .bool false) rfl rfl rfl
    · intro W hR; clear hR; go_simp
    simp only [List.set_cons_succ, List.set_cons_zero, Nat.reduceAdd]
    apply RegT.T_pure rfl rfl rfl
    · intro W hR; clear hR; go_simp; rfl
    simp only [List.set_cons_succ, List.set_cons_zero, Nat.reduceAdd]
    apply RegT.T_pure rfl rfl rfl
    · intro W hR
      have hc := X0.out W hR
      clear hR
      go_simp; rfl
    simp only [List.set_cons_succ, List.set_cons_zero, Nat.reduceAdd]
    apply RegT.T_pure (v := .bool false) rfl rfl rfl
    · intro W hR; clear hR; go_simp
    simp only [List.set_cons_succ, List.set_cons_zero, Nat.reduceAdd]
    apply RegT.T_pure (v := .bool false) rfl rfl rfl
    · intro W hR; clear hR; go_simp
    simp only [List.set_cons_succ, List.set_cons_zero, Nat.reduceAdd]
    apply RegT.T_pure (v := .bool false) rfl rfl rfl
    · intro W hR; clear hR; go_simp
    simp only [List.set_cons_succ, List.set_cons_zero, Nat.reduceAdd]
    apply RegT.T_pure rfl rfl rfl
    · exact fun W hR => load_nc (.tmp 1) rfl rfl (HX.out W hR) rfl
    simp only [List.set_cons_succ, List.set_cons_zero, Nat.reduceAdd]
    apply RegT.T_pure rfl rfl rfl
    · exact fun W hR => load_nc (.tmp 1) rfl rfl (HX.out W hR) rfl
    simp only [List.set_cons_succ, List.set_cons_zero, Nat.reduceAdd]
    apply RegT.T_const rfl rfl rfl (.agg bc) (fun _ _ h => h)
    · intro W hR hf
      have Hc := Lib.hid (Hb.out W (HK.out W hR))
      clear hR hf
      go_simp
      exact RegT.OpOK_enter Hc.out (fun e w' h => ⟨_, h.1, rfl, h.2⟩)
    simp only [List.set_cons_succ, List.set_cons_zero, Nat.reduceAdd]
    apply RegT.T_const rfl rfl rfl (.bool true) (fun _ _ h => h)
    · intro W hR hf
      have Hc := Lib.hid (Hs.out W (HK.out W hR))
      clear hR hf
      go_simp
      exact RegT.OpOK_enter Hc.out (fun e w' h => ⟨_, h.1, rfl, h.2⟩)
    simp only [List.set_cons_succ, List.set_cons_zero, Nat.reduceAdd]
    apply RegT.T_pure (v := .bool false) rfl rfl rfl
    · intro W hR; clear hR; go_simp
    simp only [List.set_cons_succ, List.set_cons_zero, Nat.reduceAdd]
    apply RegT.T_pure (v := .bool false) rfl rfl rfl
    · intro W hR; clear hR; go_simp
    simp only [List.set_cons_succ, List.set_cons_zero, Nat.reduceAdd]
    apply RegT.T_pure (v := .bool false) rfl rfl rfl
    · intro W hR; clear hR; go_simp
    simp only [List.set_cons_succ, List.set_cons_zero, Nat.reduceAdd]
    apply RegT.T_pure rfl rfl rfl
    · intro W hR; clear hR; go_simp; rfl
    simp only [List.set_cons_succ, List.set_cons_zero, Nat.reduceAdd]
    apply RegT.T_pure rfl rfl rfl
    · intro W hR
      have hc := X3.out W hR
      clear hR
      go_simp; rfl
    simp only [List.set_cons_succ, List.set_cons_zero, Nat.reduceAdd]
    apply RegT.T_pure (v := .bool false) rfl rfl rfl
    · intro W hR; clear hR; go_simp
    simp only [List.set_cons_succ, List.set_cons_zero, Nat.reduceAdd]
    apply RegT.T_pure (v := .bool false) rfl rfl rfl
    · intro W hR; clear hR; go_simp
    simp only [List.set_cons_succ, List.set_cons_zero, Nat.reduceAdd]
    apply RegT.T_pure (v := .bool false) rfl rfl rfl
    · intro W hR; clear hR; go_simp
    simp only [List.set_cons_succ, List.set_cons_zero, Nat.reduceAdd]
    apply RegT.T_pure rfl rfl rfl
    · intro W hR; clear hR; go_simp; rfl
    simp only [List.set_cons_succ, List.set_cons_zero, Nat.reduceAdd]
    apply RegT.T_pure rfl rfl rfl
    · intro W hR
      have hc := X5.out W hR
      clear hR
      go_simp; rfl
    simp only [List.set_cons_succ, List.set_cons_zero, Nat.reduceAdd]
    apply RegT.T_pure (v := .bool false) rfl rfl rfl
    · intro W hR; clear hR; go_simp
    simp only [List.set_cons_succ, List.set_cons_zero, Nat.reduceAdd]
    apply RegT.T_pure (v := .bool false) rfl rfl rfl
    · intro W hR; clear hR; go_simp
    simp only [List.set_cons_succ, List.set_cons_zero, Nat.reduceAdd]
    apply RegT.T_pure (v := .bool false) rfl rfl rfl
    · intro W hR; clear hR; go_simp
    simp only [List.set_cons_succ, List.set_cons_zero, Nat.reduceAdd]
    apply RegT.T_pure rfl rfl rfl
    · intro W hR; clear hR; go_simp; rfl
    simp only [List.set_cons_succ, List.set_cons_zero, Nat.reduceAdd]
    apply RegT.T_pure rfl rfl rfl
    · intro W hR
      have hc := X7.out W hR
      clear hR
      go_simp; rfl
    simp only [List.set_cons_succ, List.set_cons_zero, Nat.reduceAdd]
    apply RegT.T_pure rfl rfl rfl
    · intro W hR; clear hR; go_simp; rfl
    simp only [List.set_cons_succ, List.set_cons_zero, Nat.reduceAdd]
    apply RegT.T_pure (v := .bool false) rfl rfl rfl
    · intro W hR; clear hR; go_simp
    simp only [List.set_cons_succ, List.set_cons_zero, Nat.reduceAdd]
    apply RegT.T_pure (v := .bool false) rfl rfl rfl
    · intro W hR; clear hR; go_simp
    simp only [List.set_cons_succ, List.set_cons_zero, Nat.reduceAdd]
    apply RegT.T_pure (v := .bool false) rfl rfl rfl
    · intro W hR; clear hR; go_simp
    simp only [List.set_cons_succ, List.set_cons_zero, Nat.reduceAdd]
    apply RegT.T_pure rfl rfl rfl
    · intro W hR; clear hR; go_simp; rfl
    simp only [List.set_cons_succ, List.set_cons_zero, Nat.reduceAdd]
    apply RegT.T_pure rfl rfl rfl
    · intro W hR
      have hc := X8.out W hR
      clear hR
      go_simp; rfl
    simp only [List.set_cons_succ, List.set_cons_zero, Nat.reduceAdd]
    apply RegT.T_pure rfl rfl rfl
    · intro W hR; clear hR; go_simp; rfl
    simp only [List.set_cons_succ, List.set_cons_zero, Nat.reduceAdd]
    apply RegT.T_pure (v := .bool false) rfl rfl rfl
    · intro W hR; clear hR; go_simp
    simp only [List.set_cons_succ, List.set_cons_zero, Nat.reduceAdd]
    apply RegT.T_pure (v := .bool false) rfl rfl rfl
    · intro W hR; clear hR; go_simp
    simp only [List.set_cons_succ, List.set_cons_zero, Nat.reduceAdd]
    refine RegT.T_end rfl (fun W5 hR hf => ?_)
    have HB5 := Lib.hid (HB0.out.trans (((Below.refl _ _).drew.trans hR).mono HB0.out.size))
    have x7 := X7.out W5 hR
    have HK5 := Lib.hid (HL.out.keeps ((Keeps.refl _).drew.trans hR.block))
    clear hR hf HX HK X0 X3 X5 X7 X8 HL
    go_wp2
    go_loop [3] (fun i => ∃ q : Nat, q ≤ L.length ∧ i = .int .i64 (q : Int) ∧ Hid (anyLong (L.take q) = false)) (fun i => L.length - (intOf i).toNat)
    case atStart => exact ⟨0, Nat.zero_le _, rfl, Lib.hid rfl⟩
    case round =>
      obtain ⟨q, hq, rfl, Hq⟩ := hrel
      by_cases hlt : q < L.length
      · obtain ⟨b2, off2, c3, d, hv, hc0, hc1, hrd⟩ := HK5.out.both q hlt
        cases hv
        obtain ⟨pd2, cd2, rfl⟩ : ∃ p c, d = .slice p L[q].2.length c := by obtain ⟨p, c, h1, _⟩ := hrd; exact ⟨p, c, h1⟩
        have Hst := Lib.hid (show anyLong (L.take (q + 1)) = (anyLong (L.take q) || decide (3000 < L[q].2.length)) by rw [List.take_succ_eq_append_getElem hlt]; unfold anyLong; rw [List.any_append]; simp)
        have Hin := Lib.hid (show decide (3000 < L[q].2.length) = true → anyLong L = true from fun h => by unfold anyLong; exact List.any_eq_true.2 ⟨L[q], List.getElem_mem _, h⟩)
        clear hc0 hrd
        generalize L[q].2.length = z at *
        by_cases g : 3000 < z
        · have f1 : decide (3000 < z) = true := by simp [g]
          have f2 : decide ((3000 : Int) < (z : Int)) = true := by simp; omega
          have Hr := Lib.hid (Hin.out f1)
          clear Hin
          go_wp2
          go_ret
          refine ⟨?_, HB5.out⟩
          rw [Hr.out]; rfl
        · have f1 : decide (3000 < z) = false := by simp; omega
          have f2 : decide ((3000 : Int) < (z : Int)) = false := by simp; omega
          clear Hin
          go_wp2
          go_round
          case rel => exact ⟨q + 1, by omega, by go_num, Lib.hid (by rw [Hst.out, Hq.out, f1]; rfl)⟩
          case measure => simp [intOf]; omega
      · have hq2 : q = L.length := by omega
        have h := Hq.out
        rw [hq2, List.take_length] at h
        have H := Lib.hid h
        clear h Hq
        go_wp2
        go_ret
        refine ⟨?_, HB5.out⟩
        rw [H.out]; rfl
  · rfl
  · kernel_rfl
end Go.Proofs.Yteellfgiejnigaa
