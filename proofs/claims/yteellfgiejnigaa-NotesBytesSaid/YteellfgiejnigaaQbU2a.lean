/- The walk of notes.May (kind 1). -/
import Derived.Test.YteellfgiejnigaaQbU1
namespace Go.Proofs.Yteellfgiejnigaa
open Go.ChangeShapes Go.WideShapes Go.ChangeAt Go.RowKit
set_option linter.unusedVariables false
set_option maxRecDepth 100000 in
set_option maxHeartbeats 6400000 in
theorem may_k1_w (t1 r1 i1 a1 c1 : Nat) (y1 : Bool) (L1 : List Ent) (D1 : List UInt8) (lv1 dv1 : Value) (S1 : Foot) (w : World) (h1 : EsR w S1 lv1 L1) (h2 : RdB w dv1 D1) (hn : L1.length ≤ 1000000) :
    Calls Try.prog 46 #[.agg #[.int .u8 1, .int .u64 (t1 : Int), .int .u64 (r1 : Int), .int .u64 (i1 : Int), .int .u64 (a1 : Int), .int .u64 (c1 : Int), .bool y1, lv1, dv1]] w fun e w' => e = .returned (.bool (mayN ⟨1, t1, r1, i1, a1, c1, y1, L1, D1⟩)) ∧ Below w.heap.size w w' := by
  have HB0 := Lib.hid ((Below.refl w.heap.size w).alloc (Nat.le_refl _) (.cells #[.int .u8 1, .int .u64 (t1 : Int), .int .u64 (r1 : Int), .int .u64 (i1 : Int), .int .u64 (a1 : Int), .int .u64 (c1 : Int), .bool y1, lv1, dv1] 31))
  have HL1 := Lib.hid (h1.keeps HB0.out.block)
  obtain ⟨pl1, cl1, rfl⟩ := h1.len_form
  obtain ⟨pd1, cd1, rfl, _⟩ := h2
  have HF := Lib.hid (fields1_w (w.alloc (.cells #[.int .u8 1, .int .u64 (t1 : Int), .int .u64 (r1 : Int), .int .u64 (i1 : Int), .int .u64 (a1 : Int), .int .u64 (c1 : Int), .bool y1, .slice pl1 L1.length cl1, .slice pd1 D1.length cd1] 31)))
  clear h1
  by_cases g3 : c1 = 0
  case neg =>
    have e1 : (c1 != 0) = true := by simp; omega
    have e2 : ((c1 : Int) != 0) = true := by simp; omega
    have e3 : ((c1 : Int) == 0) = false := by simp; omega
    have e4 : decide ((c1 : Int) = 0) = false := by simp; omega
    have hq : mayN ⟨1, t1, r1, i1, a1, c1, y1, L1, D1⟩ = false := by unfold mayN; simp only [decide_eq_false_iff_not]; intro e; exact g3 (e.2.2.2.2.2.1 rfl)
    rw [hq]
    clear hq
    clear g3 hn
    go_enter Try.func46, Try.ntmps46
    go_wp2_with (first
      | (go_at_call 68; go_loud (refine (HF.out).mono ?_; rintro e w2 ⟨rfl, hB⟩; have HB2 := Lib.hid (HB0.out.trans (hB.mono HB0.out.size)); have HL2 := Lib.hid (HL1.out.keeps hB.block); have hBz := hB.alloc hB.size (.cells #[.bool true, .bool true, .bool true, .bool false, .bool false, .bool false, .bool false] 112); have x0 := (hBz.cell (p := ⟨w.heap.size, 0, none⟩) (by simp)).trans (show _ = some (.int .u8 1) by simp); have x2 := (hBz.cell (p := ⟨w.heap.size, 2, none⟩) (by simp)).trans (show _ = some (.int .u64 (r1 : Int)) by simp); have x3 := (hBz.cell (p := ⟨w.heap.size, 3, none⟩) (by simp)).trans (show _ = some (.int .u64 (i1 : Int)) by simp); have x4 := (hBz.cell (p := ⟨w.heap.size, 4, none⟩) (by simp)).trans (show _ = some (.int .u64 (a1 : Int)) by simp); have x5 := (hBz.cell (p := ⟨w.heap.size, 5, none⟩) (by simp)).trans (show _ = some (.int .u64 (c1 : Int)) by simp); have x6 := (hBz.cell (p := ⟨w.heap.size, 6, none⟩) (by simp)).trans (show _ = some (.bool y1) by simp); have x7 := (hBz.cell (p := ⟨w.heap.size, 7, none⟩) (by simp)).trans (show _ = some (.slice pl1 L1.length cl1) by simp); have x8 := (hBz.cell (p := ⟨w.heap.size, 8, none⟩) (by simp)).trans (show _ = some (.slice pd1 D1.length cd1) by simp); have HB2b := Lib.hid (HB2.out.alloc HB2.out.size (.cells #[.bool true, .bool true, .bool true, .bool false, .bool false, .bool false, .bool false] 112)); have HL2b := Lib.hid (HL2.out.keeps ((Keeps.refl w2).alloc (.cells #[.bool true, .bool true, .bool true, .bool false, .bool false, .bool false, .bool false] 112))); clear hB hBz HF))
      | (refine wpList_alloc_zero rfl 112 rfl _ hz112 ?_)
      | (refine wpList_store_rowTo rfl 112 (.tmp 3) (.tmp 6) rfl rfl _ #[.bool true, .bool true, .bool true, .bool false, .bool false, .bool false, .bool false] rfl rfl 112 #[.bool false, .bool false, .bool false, .bool false, .bool false, .bool false, .bool false] (heap_alloc_new w2 _) (show _ = some 7 by kernel_rfl) rfl (by simp [Value.oneCell']) ?_; rw [alloc_setRow]))
    go_ret
    exact ⟨rfl, HB2b.out⟩
  case pos =>
    have G3 := Lib.hid g3
    have p3a : (c1 != 0) = false := by simp [g3]
    have p3b : ((c1 : Int) != 0) = false := by simp [g3]
    have p3c : ((c1 : Int) == 0) = true := by simp [g3]
    have p3d : decide ((c1 : Int) = 0) = true := by simp [g3]
    have p3e : decide (4611686018427387904 < c1) = false := by simp [g3]
    have p3f : decide ((4611686018427387904 : Int) < (c1 : Int)) = false := by simp [g3]
    clear g3
    by_cases gi : 4611686018427387904 < i1
    case pos =>
      have e1 : decide (4611686018427387904 < i1) = true := by simp; omega
      have e2 : decide ((4611686018427387904 : Int) < (i1 : Int)) = true := by simp; omega
      have hq : mayN ⟨1, t1, r1, i1, a1, c1, y1, L1, D1⟩ = false := by unfold mayN; simp only [decide_eq_false_iff_not]; intro e; have := e.2.2.2.2.2.2.1; (try dsimp only at this); omega
      rw [hq]
      clear hq
      clear gi hn
      go_enter Try.func46, Try.ntmps46
      go_wp2_with (first
        | (go_at_call 68; go_loud (refine (HF.out).mono ?_; rintro e w2 ⟨rfl, hB⟩; have HB2 := Lib.hid (HB0.out.trans (hB.mono HB0.out.size)); have HL2 := Lib.hid (HL1.out.keeps hB.block); have hBz := hB.alloc hB.size (.cells #[.bool true, .bool true, .bool true, .bool false, .bool false, .bool false, .bool false] 112); have x0 := (hBz.cell (p := ⟨w.heap.size, 0, none⟩) (by simp)).trans (show _ = some (.int .u8 1) by simp); have x2 := (hBz.cell (p := ⟨w.heap.size, 2, none⟩) (by simp)).trans (show _ = some (.int .u64 (r1 : Int)) by simp); have x3 := (hBz.cell (p := ⟨w.heap.size, 3, none⟩) (by simp)).trans (show _ = some (.int .u64 (i1 : Int)) by simp); have x4 := (hBz.cell (p := ⟨w.heap.size, 4, none⟩) (by simp)).trans (show _ = some (.int .u64 (a1 : Int)) by simp); have x5 := (hBz.cell (p := ⟨w.heap.size, 5, none⟩) (by simp)).trans (show _ = some (.int .u64 (c1 : Int)) by simp); have x6 := (hBz.cell (p := ⟨w.heap.size, 6, none⟩) (by simp)).trans (show _ = some (.bool y1) by simp); have x7 := (hBz.cell (p := ⟨w.heap.size, 7, none⟩) (by simp)).trans (show _ = some (.slice pl1 L1.length cl1) by simp); have x8 := (hBz.cell (p := ⟨w.heap.size, 8, none⟩) (by simp)).trans (show _ = some (.slice pd1 D1.length cd1) by simp); have HB2b := Lib.hid (HB2.out.alloc HB2.out.size (.cells #[.bool true, .bool true, .bool true, .bool false, .bool false, .bool false, .bool false] 112)); have HL2b := Lib.hid (HL2.out.keeps ((Keeps.refl w2).alloc (.cells #[.bool true, .bool true, .bool true, .bool false, .bool false, .bool false, .bool false] 112))); clear hB hBz HF))
        | (refine wpList_alloc_zero rfl 112 rfl _ hz112 ?_)
        | (refine wpList_store_rowTo rfl 112 (.tmp 3) (.tmp 6) rfl rfl _ #[.bool true, .bool true, .bool true, .bool false, .bool false, .bool false, .bool false] rfl rfl 112 #[.bool false, .bool false, .bool false, .bool false, .bool false, .bool false, .bool false] (heap_alloc_new w2 _) (show _ = some 7 by kernel_rfl) rfl (by simp [Value.oneCell']) ?_; rw [alloc_setRow]))
      go_ret
      exact ⟨rfl, HB2b.out⟩
    case neg =>
      have gia : decide (4611686018427387904 < i1) = false := by simp; omega
      have gib : decide ((4611686018427387904 : Int) < (i1 : Int)) = false := by simp; omega
      cases y1 with
      | true =>
        have hq : mayN ⟨1, t1, r1, i1, a1, c1, true, L1, D1⟩ = false := by unfold mayN; simp only [decide_eq_false_iff_not]; intro e; exact absurd (e.2.2.2.2.2.2.2.2.1 rfl) (by simp)
        rw [hq]
        clear hq
        clear hn
        go_enter Try.func46, Try.ntmps46
        go_wp2_with (first
          | (go_at_call 68; go_loud (refine (HF.out).mono ?_; rintro e w2 ⟨rfl, hB⟩; have HB2 := Lib.hid (HB0.out.trans (hB.mono HB0.out.size)); have HL2 := Lib.hid (HL1.out.keeps hB.block); have hBz := hB.alloc hB.size (.cells #[.bool true, .bool true, .bool true, .bool false, .bool false, .bool false, .bool false] 112); have x0 := (hBz.cell (p := ⟨w.heap.size, 0, none⟩) (by simp)).trans (show _ = some (.int .u8 1) by simp); have x2 := (hBz.cell (p := ⟨w.heap.size, 2, none⟩) (by simp)).trans (show _ = some (.int .u64 (r1 : Int)) by simp); have x3 := (hBz.cell (p := ⟨w.heap.size, 3, none⟩) (by simp)).trans (show _ = some (.int .u64 (i1 : Int)) by simp); have x4 := (hBz.cell (p := ⟨w.heap.size, 4, none⟩) (by simp)).trans (show _ = some (.int .u64 (a1 : Int)) by simp); have x5 := (hBz.cell (p := ⟨w.heap.size, 5, none⟩) (by simp)).trans (show _ = some (.int .u64 (c1 : Int)) by simp); have x6 := (hBz.cell (p := ⟨w.heap.size, 6, none⟩) (by simp)).trans (show _ = some (.bool true) by simp); have x7 := (hBz.cell (p := ⟨w.heap.size, 7, none⟩) (by simp)).trans (show _ = some (.slice pl1 L1.length cl1) by simp); have x8 := (hBz.cell (p := ⟨w.heap.size, 8, none⟩) (by simp)).trans (show _ = some (.slice pd1 D1.length cd1) by simp); have HB2b := Lib.hid (HB2.out.alloc HB2.out.size (.cells #[.bool true, .bool true, .bool true, .bool false, .bool false, .bool false, .bool false] 112)); have HL2b := Lib.hid (HL2.out.keeps ((Keeps.refl w2).alloc (.cells #[.bool true, .bool true, .bool true, .bool false, .bool false, .bool false, .bool false] 112))); clear hB hBz HF))
          | (refine wpList_alloc_zero rfl 112 rfl _ hz112 ?_)
          | (refine wpList_store_rowTo rfl 112 (.tmp 3) (.tmp 6) rfl rfl _ #[.bool true, .bool true, .bool true, .bool false, .bool false, .bool false, .bool false] rfl rfl 112 #[.bool false, .bool false, .bool false, .bool false, .bool false, .bool false, .bool false] (heap_alloc_new w2 _) (show _ = some 7 by kernel_rfl) rfl (by simp [Value.oneCell']) ?_; rw [alloc_setRow]))
        go_ret
        exact ⟨rfl, HB2b.out⟩
      | false =>
        by_cases gl : L1.length = 0
        case neg =>
          have e1 : decide (0 < L1.length) = true := by simp; omega
          have e2 : decide ((0 : Int) < (L1.length : Int)) = true := by simp; omega
          have hq : mayN ⟨1, t1, r1, i1, a1, c1, false, L1, D1⟩ = false := by unfold mayN; simp only [decide_eq_false_iff_not]; intro e; exact gl (e.2.2.2.2.2.2.2.2.2.1 rfl)
          rw [hq]
          clear hq
          clear gl hn
          go_enter Try.func46, Try.ntmps46
          go_wp2_with (first
            | (go_at_call 68; go_loud (refine (HF.out).mono ?_; rintro e w2 ⟨rfl, hB⟩; have HB2 := Lib.hid (HB0.out.trans (hB.mono HB0.out.size)); have HL2 := Lib.hid (HL1.out.keeps hB.block); have hBz := hB.alloc hB.size (.cells #[.bool true, .bool true, .bool true, .bool false, .bool false, .bool false, .bool false] 112); have x0 := (hBz.cell (p := ⟨w.heap.size, 0, none⟩) (by simp)).trans (show _ = some (.int .u8 1) by simp); have x2 := (hBz.cell (p := ⟨w.heap.size, 2, none⟩) (by simp)).trans (show _ = some (.int .u64 (r1 : Int)) by simp); have x3 := (hBz.cell (p := ⟨w.heap.size, 3, none⟩) (by simp)).trans (show _ = some (.int .u64 (i1 : Int)) by simp); have x4 := (hBz.cell (p := ⟨w.heap.size, 4, none⟩) (by simp)).trans (show _ = some (.int .u64 (a1 : Int)) by simp); have x5 := (hBz.cell (p := ⟨w.heap.size, 5, none⟩) (by simp)).trans (show _ = some (.int .u64 (c1 : Int)) by simp); have x6 := (hBz.cell (p := ⟨w.heap.size, 6, none⟩) (by simp)).trans (show _ = some (.bool false) by simp); have x7 := (hBz.cell (p := ⟨w.heap.size, 7, none⟩) (by simp)).trans (show _ = some (.slice pl1 L1.length cl1) by simp); have x8 := (hBz.cell (p := ⟨w.heap.size, 8, none⟩) (by simp)).trans (show _ = some (.slice pd1 D1.length cd1) by simp); have HB2b := Lib.hid (HB2.out.alloc HB2.out.size (.cells #[.bool true, .bool true, .bool true, .bool false, .bool false, .bool false, .bool false] 112)); have HL2b := Lib.hid (HL2.out.keeps ((Keeps.refl w2).alloc (.cells #[.bool true, .bool true, .bool true, .bool false, .bool false, .bool false, .bool false] 112))); clear hB hBz HF))
            | (refine wpList_alloc_zero rfl 112 rfl _ hz112 ?_)
            | (refine wpList_store_rowTo rfl 112 (.tmp 3) (.tmp 6) rfl rfl _ #[.bool true, .bool true, .bool true, .bool false, .bool false, .bool false, .bool false] rfl rfl 112 #[.bool false, .bool false, .bool false, .bool false, .bool false, .bool false, .bool false] (heap_alloc_new w2 _) (show _ = some 7 by kernel_rfl) rfl (by simp [Value.oneCell']) ?_; rw [alloc_setRow]))
          go_ret
          exact ⟨rfl, HB2b.out⟩
        case pos =>
          have glH := Lib.hid gl
          have gl1 : decide (0 < L1.length) = false := by simp [gl]
          have gl2 : decide ((0 : Int) < (L1.length : Int)) = false := by simp [gl]
          have gl3 : decide (L1.length ≤ 16) = true := by simp [gl]
          have gl4 : decide ((L1.length : Int) ≤ 16) = true := by simp [gl]
          clear gl
          by_cases gd : D1.length = 0
          case neg =>
            have e1 : decide (0 < D1.length) = true := by simp; omega
            have e2 : decide ((0 : Int) < (D1.length : Int)) = true := by simp; omega
            have hq : mayN ⟨1, t1, r1, i1, a1, c1, false, L1, D1⟩ = false := by unfold mayN; simp only [decide_eq_false_iff_not]; intro e; exact gd (e.2.2.2.2.2.2.2.2.2.2.1 rfl)
            rw [hq]
            clear hq
            clear gd hn
            go_enter Try.func46, Try.ntmps46
            go_wp2_with (first
              | (go_at_call 68; go_loud (refine (HF.out).mono ?_; rintro e w2 ⟨rfl, hB⟩; have HB2 := Lib.hid (HB0.out.trans (hB.mono HB0.out.size)); have HL2 := Lib.hid (HL1.out.keeps hB.block); have hBz := hB.alloc hB.size (.cells #[.bool true, .bool true, .bool true, .bool false, .bool false, .bool false, .bool false] 112); have x0 := (hBz.cell (p := ⟨w.heap.size, 0, none⟩) (by simp)).trans (show _ = some (.int .u8 1) by simp); have x2 := (hBz.cell (p := ⟨w.heap.size, 2, none⟩) (by simp)).trans (show _ = some (.int .u64 (r1 : Int)) by simp); have x3 := (hBz.cell (p := ⟨w.heap.size, 3, none⟩) (by simp)).trans (show _ = some (.int .u64 (i1 : Int)) by simp); have x4 := (hBz.cell (p := ⟨w.heap.size, 4, none⟩) (by simp)).trans (show _ = some (.int .u64 (a1 : Int)) by simp); have x5 := (hBz.cell (p := ⟨w.heap.size, 5, none⟩) (by simp)).trans (show _ = some (.int .u64 (c1 : Int)) by simp); have x6 := (hBz.cell (p := ⟨w.heap.size, 6, none⟩) (by simp)).trans (show _ = some (.bool false) by simp); have x7 := (hBz.cell (p := ⟨w.heap.size, 7, none⟩) (by simp)).trans (show _ = some (.slice pl1 L1.length cl1) by simp); have x8 := (hBz.cell (p := ⟨w.heap.size, 8, none⟩) (by simp)).trans (show _ = some (.slice pd1 D1.length cd1) by simp); have HB2b := Lib.hid (HB2.out.alloc HB2.out.size (.cells #[.bool true, .bool true, .bool true, .bool false, .bool false, .bool false, .bool false] 112)); have HL2b := Lib.hid (HL2.out.keeps ((Keeps.refl w2).alloc (.cells #[.bool true, .bool true, .bool true, .bool false, .bool false, .bool false, .bool false] 112))); clear hB hBz HF))
              | (refine wpList_alloc_zero rfl 112 rfl _ hz112 ?_)
              | (refine wpList_store_rowTo rfl 112 (.tmp 3) (.tmp 6) rfl rfl _ #[.bool true, .bool true, .bool true, .bool false, .bool false, .bool false, .bool false] rfl rfl 112 #[.bool false, .bool false, .bool false, .bool false, .bool false, .bool false, .bool false] (heap_alloc_new w2 _) (show _ = some 7 by kernel_rfl) rfl (by simp [Value.oneCell']) ?_; rw [alloc_setRow]))
            go_ret
            exact ⟨rfl, HB2b.out⟩
          case pos =>
            have gdH := Lib.hid gd
            have gd1 : decide (0 < D1.length) = false := by simp [gd]
            have gd2 : decide ((0 : Int) < (D1.length : Int)) = false := by simp [gd]
            have gd3 : decide (D1.length ≤ 524288) = true := by simp [gd]
            have gd4 : decide ((D1.length : Int) ≤ 524288) = true := by simp [gd]
            clear gd
            have hq : mayN ⟨1, t1, r1, i1, a1, c1, false, L1, D1⟩ = !anyLong L1 := by
              cases hl : anyLong L1 with
              | true => unfold mayN; simp only [Bool.not_true, decide_eq_false_iff_not]; intro e; have := e.2.2.2.2.2.2.2.2.2.2.2.2.2; (try dsimp only at this); rw [hl] at this; cases this
              | false => unfold mayN; simp only [Bool.not_false, decide_eq_true_eq]; exact ⟨(by decide), (by decide), (fun h => absurd h (by decide)), (fun h => absurd h (by decide)), (fun h => absurd h (by decide)), (fun _ => G3.out), (by omega), (by have h0 := G3.out; omega), (by simp), (fun _ => glH.out), (fun _ => gdH.out), (by have h0 := glH.out; omega), (by have h0 := gdH.out; omega), hl⟩
            rw [hq]
            clear hq
            have HC := Lib.hid (fun (W : World) (hW : EsR W S1 (.slice pl1 L1.length cl1) L1) => containsFunc_w S1 _ L1 W hW hn)
            generalize anyLong L1 = q at *
            go_enter Try.func46, Try.ntmps46
            go_wp2_with (first
              | (go_at_call 68; go_loud (refine (HF.out).mono ?_; rintro e w2 ⟨rfl, hB⟩; have HB2 := Lib.hid (HB0.out.trans (hB.mono HB0.out.size)); have HL2 := Lib.hid (HL1.out.keeps hB.block); have hBz := hB.alloc hB.size (.cells #[.bool true, .bool true, .bool true, .bool false, .bool false, .bool false, .bool false] 112); have x0 := (hBz.cell (p := ⟨w.heap.size, 0, none⟩) (by simp)).trans (show _ = some (.int .u8 1) by simp); have x2 := (hBz.cell (p := ⟨w.heap.size, 2, none⟩) (by simp)).trans (show _ = some (.int .u64 (r1 : Int)) by simp); have x3 := (hBz.cell (p := ⟨w.heap.size, 3, none⟩) (by simp)).trans (show _ = some (.int .u64 (i1 : Int)) by simp); have x4 := (hBz.cell (p := ⟨w.heap.size, 4, none⟩) (by simp)).trans (show _ = some (.int .u64 (a1 : Int)) by simp); have x5 := (hBz.cell (p := ⟨w.heap.size, 5, none⟩) (by simp)).trans (show _ = some (.int .u64 (c1 : Int)) by simp); have x6 := (hBz.cell (p := ⟨w.heap.size, 6, none⟩) (by simp)).trans (show _ = some (.bool false) by simp); have x7 := (hBz.cell (p := ⟨w.heap.size, 7, none⟩) (by simp)).trans (show _ = some (.slice pl1 L1.length cl1) by simp); have x8 := (hBz.cell (p := ⟨w.heap.size, 8, none⟩) (by simp)).trans (show _ = some (.slice pd1 D1.length cd1) by simp); have HB2b := Lib.hid (HB2.out.alloc HB2.out.size (.cells #[.bool true, .bool true, .bool true, .bool false, .bool false, .bool false, .bool false] 112)); have HL2b := Lib.hid (HL2.out.keeps ((Keeps.refl w2).alloc (.cells #[.bool true, .bool true, .bool true, .bool false, .bool false, .bool false, .bool false] 112))); clear hB hBz HF))
              | (refine wpList_alloc_zero rfl 112 rfl _ hz112 ?_)
              | (refine wpList_store_rowTo rfl 112 (.tmp 3) (.tmp 6) rfl rfl _ #[.bool true, .bool true, .bool true, .bool false, .bool false, .bool false, .bool false] rfl rfl 112 #[.bool false, .bool false, .bool false, .bool false, .bool false, .bool false, .bool false] (heap_alloc_new w2 _) (show _ = some 7 by kernel_rfl) rfl (by simp [Value.oneCell']) ?_; rw [alloc_setRow])
              | (go_at_call 92; refine (HC.out _ HL2b.out).mono ?_; rintro e w4 ⟨rfl, hB⟩; have HB4 := Lib.hid (HB2b.out.trans (hB.mono HB2b.out.size)); clear hB HC))
            go_ret
            exact ⟨rfl, HB4.out⟩
end Go.Proofs.Yteellfgiejnigaa
/- The walk of notes.May (kind 2). -/
namespace Go.Proofs.Yteellfgiejnigaa
open Go.ChangeShapes Go.WideShapes Go.ChangeAt Go.RowKit
set_option linter.unusedVariables false
set_option maxRecDepth 100000 in
set_option maxHeartbeats 6400000 in
theorem may_k2_w (t1 r1 i1 a1 c1 : Nat) (y1 : Bool) (L1 : List Ent) (D1 : List UInt8) (lv1 dv1 : Value) (S1 : Foot) (w : World) (h1 : EsR w S1 lv1 L1) (h2 : RdB w dv1 D1) (hn : L1.length ≤ 1000000) :
    Calls Try.prog 46 #[.agg #[.int .u8 2, .int .u64 (t1 : Int), .int .u64 (r1 : Int), .int .u64 (i1 : Int), .int .u64 (a1 : Int), .int .u64 (c1 : Int), .bool y1, lv1, dv1]] w fun e w' => e = .returned (.bool (mayN ⟨2, t1, r1, i1, a1, c1, y1, L1, D1⟩)) ∧ Below w.heap.size w w' := by
  have HB0 := Lib.hid ((Below.refl w.heap.size w).alloc (Nat.le_refl _) (.cells #[.int .u8 2, .int .u64 (t1 : Int), .int .u64 (r1 : Int), .int .u64 (i1 : Int), .int .u64 (a1 : Int), .int .u64 (c1 : Int), .bool y1, lv1, dv1] 31))
  have HL1 := Lib.hid (h1.keeps HB0.out.block)
  obtain ⟨pl1, cl1, rfl⟩ := h1.len_form
  obtain ⟨pd1, cd1, rfl, _⟩ := h2
  have HF := Lib.hid (fields2_w (w.alloc (.cells #[.int .u8 2, .int .u64 (t1 : Int), .int .u64 (r1 : Int), .int .u64 (i1 : Int), .int .u64 (a1 : Int), .int .u64 (c1 : Int), .bool y1, .slice pl1 L1.length cl1, .slice pd1 D1.length cd1] 31)))
  clear h1
  by_cases g1 : i1 = 0
  case neg =>
    have e1 : (i1 != 0) = true := by simp; omega
    have e2 : ((i1 : Int) != 0) = true := by simp; omega
    have e3 : ((i1 : Int) == 0) = false := by simp; omega
    have e4 : decide ((i1 : Int) = 0) = false := by simp; omega
    have hq : mayN ⟨2, t1, r1, i1, a1, c1, y1, L1, D1⟩ = false := by unfold mayN; simp only [decide_eq_false_iff_not]; intro e; exact g1 (e.2.2.2.1 rfl)
    rw [hq]
    clear hq
    clear g1 hn
    go_enter Try.func46, Try.ntmps46
    go_wp2_with (first
      | (go_at_call 68; go_loud (refine (HF.out).mono ?_; rintro e w2 ⟨rfl, hB⟩; have HB2 := Lib.hid (HB0.out.trans (hB.mono HB0.out.size)); have HL2 := Lib.hid (HL1.out.keeps hB.block); have hBz := hB.alloc hB.size (.cells #[.bool true, .bool false, .bool false, .bool false, .bool true, .bool false, .bool false] 112); have x0 := (hBz.cell (p := ⟨w.heap.size, 0, none⟩) (by simp)).trans (show _ = some (.int .u8 2) by simp); have x2 := (hBz.cell (p := ⟨w.heap.size, 2, none⟩) (by simp)).trans (show _ = some (.int .u64 (r1 : Int)) by simp); have x3 := (hBz.cell (p := ⟨w.heap.size, 3, none⟩) (by simp)).trans (show _ = some (.int .u64 (i1 : Int)) by simp); have x4 := (hBz.cell (p := ⟨w.heap.size, 4, none⟩) (by simp)).trans (show _ = some (.int .u64 (a1 : Int)) by simp); have x5 := (hBz.cell (p := ⟨w.heap.size, 5, none⟩) (by simp)).trans (show _ = some (.int .u64 (c1 : Int)) by simp); have x6 := (hBz.cell (p := ⟨w.heap.size, 6, none⟩) (by simp)).trans (show _ = some (.bool y1) by simp); have x7 := (hBz.cell (p := ⟨w.heap.size, 7, none⟩) (by simp)).trans (show _ = some (.slice pl1 L1.length cl1) by simp); have x8 := (hBz.cell (p := ⟨w.heap.size, 8, none⟩) (by simp)).trans (show _ = some (.slice pd1 D1.length cd1) by simp); have HB2b := Lib.hid (HB2.out.alloc HB2.out.size (.cells #[.bool true, .bool false, .bool false, .bool false, .bool true, .bool false, .bool false] 112)); have HL2b := Lib.hid (HL2.out.keeps ((Keeps.refl w2).alloc (.cells #[.bool true, .bool false, .bool false, .bool false, .bool true, .bool false, .bool false] 112))); clear hB hBz HF))
      | (refine wpList_alloc_zero rfl 112 rfl _ hz112 ?_)
      | (refine wpList_store_rowTo rfl 112 (.tmp 3) (.tmp 6) rfl rfl _ #[.bool true, .bool false, .bool false, .bool false, .bool true, .bool false, .bool false] rfl rfl 112 #[.bool false, .bool false, .bool false, .bool false, .bool false, .bool false, .bool false] (heap_alloc_new w2 _) (show _ = some 7 by kernel_rfl) rfl (by simp [Value.oneCell']) ?_; rw [alloc_setRow]))
    go_ret
    exact ⟨rfl, HB2b.out⟩
  case pos =>
    have G1 := Lib.hid g1
    have p1a : (i1 != 0) = false := by simp [g1]
    have p1b : ((i1 : Int) != 0) = false := by simp [g1]
    have p1c : ((i1 : Int) == 0) = true := by simp [g1]
    have p1d : decide ((i1 : Int) = 0) = true := by simp [g1]
    have p1e : decide (4611686018427387904 < i1) = false := by simp [g1]
    have p1f : decide ((4611686018427387904 : Int) < (i1 : Int)) = false := by simp [g1]
    clear g1
    by_cases g2 : a1 = 0
    case neg =>
      have e1 : (a1 != 0) = true := by simp; omega
      have e2 : ((a1 : Int) != 0) = true := by simp; omega
      have e3 : ((a1 : Int) == 0) = false := by simp; omega
      have e4 : decide ((a1 : Int) = 0) = false := by simp; omega
      have hq : mayN ⟨2, t1, r1, i1, a1, c1, y1, L1, D1⟩ = false := by unfold mayN; simp only [decide_eq_false_iff_not]; intro e; exact g2 (e.2.2.2.2.1 rfl)
      rw [hq]
      clear hq
      clear g2 hn
      go_enter Try.func46, Try.ntmps46
      go_wp2_with (first
        | (go_at_call 68; go_loud (refine (HF.out).mono ?_; rintro e w2 ⟨rfl, hB⟩; have HB2 := Lib.hid (HB0.out.trans (hB.mono HB0.out.size)); have HL2 := Lib.hid (HL1.out.keeps hB.block); have hBz := hB.alloc hB.size (.cells #[.bool true, .bool false, .bool false, .bool false, .bool true, .bool false, .bool false] 112); have x0 := (hBz.cell (p := ⟨w.heap.size, 0, none⟩) (by simp)).trans (show _ = some (.int .u8 2) by simp); have x2 := (hBz.cell (p := ⟨w.heap.size, 2, none⟩) (by simp)).trans (show _ = some (.int .u64 (r1 : Int)) by simp); have x3 := (hBz.cell (p := ⟨w.heap.size, 3, none⟩) (by simp)).trans (show _ = some (.int .u64 (i1 : Int)) by simp); have x4 := (hBz.cell (p := ⟨w.heap.size, 4, none⟩) (by simp)).trans (show _ = some (.int .u64 (a1 : Int)) by simp); have x5 := (hBz.cell (p := ⟨w.heap.size, 5, none⟩) (by simp)).trans (show _ = some (.int .u64 (c1 : Int)) by simp); have x6 := (hBz.cell (p := ⟨w.heap.size, 6, none⟩) (by simp)).trans (show _ = some (.bool y1) by simp); have x7 := (hBz.cell (p := ⟨w.heap.size, 7, none⟩) (by simp)).trans (show _ = some (.slice pl1 L1.length cl1) by simp); have x8 := (hBz.cell (p := ⟨w.heap.size, 8, none⟩) (by simp)).trans (show _ = some (.slice pd1 D1.length cd1) by simp); have HB2b := Lib.hid (HB2.out.alloc HB2.out.size (.cells #[.bool true, .bool false, .bool false, .bool false, .bool true, .bool false, .bool false] 112)); have HL2b := Lib.hid (HL2.out.keeps ((Keeps.refl w2).alloc (.cells #[.bool true, .bool false, .bool false, .bool false, .bool true, .bool false, .bool false] 112))); clear hB hBz HF))
        | (refine wpList_alloc_zero rfl 112 rfl _ hz112 ?_)
        | (refine wpList_store_rowTo rfl 112 (.tmp 3) (.tmp 6) rfl rfl _ #[.bool true, .bool false, .bool false, .bool false, .bool true, .bool false, .bool false] rfl rfl 112 #[.bool false, .bool false, .bool false, .bool false, .bool false, .bool false, .bool false] (heap_alloc_new w2 _) (show _ = some 7 by kernel_rfl) rfl (by simp [Value.oneCell']) ?_; rw [alloc_setRow]))
      go_ret
      exact ⟨rfl, HB2b.out⟩
    case pos =>
      have G2 := Lib.hid g2
      have p2a : (a1 != 0) = false := by simp [g2]
      have p2b : ((a1 : Int) != 0) = false := by simp [g2]
      have p2c : ((a1 : Int) == 0) = true := by simp [g2]
      have p2d : decide ((a1 : Int) = 0) = true := by simp [g2]
      have p2e : decide (4611686018427387904 < a1) = false := by simp [g2]
      have p2f : decide ((4611686018427387904 : Int) < (a1 : Int)) = false := by simp [g2]
      clear g2
      by_cases g3 : c1 = 0
      case neg =>
        have e1 : (c1 != 0) = true := by simp; omega
        have e2 : ((c1 : Int) != 0) = true := by simp; omega
        have e3 : ((c1 : Int) == 0) = false := by simp; omega
        have e4 : decide ((c1 : Int) = 0) = false := by simp; omega
        have hq : mayN ⟨2, t1, r1, i1, a1, c1, y1, L1, D1⟩ = false := by unfold mayN; simp only [decide_eq_false_iff_not]; intro e; exact g3 (e.2.2.2.2.2.1 rfl)
        rw [hq]
        clear hq
        clear g3 hn
        go_enter Try.func46, Try.ntmps46
        go_wp2_with (first
          | (go_at_call 68; go_loud (refine (HF.out).mono ?_; rintro e w2 ⟨rfl, hB⟩; have HB2 := Lib.hid (HB0.out.trans (hB.mono HB0.out.size)); have HL2 := Lib.hid (HL1.out.keeps hB.block); have hBz := hB.alloc hB.size (.cells #[.bool true, .bool false, .bool false, .bool false, .bool true, .bool false, .bool false] 112); have x0 := (hBz.cell (p := ⟨w.heap.size, 0, none⟩) (by simp)).trans (show _ = some (.int .u8 2) by simp); have x2 := (hBz.cell (p := ⟨w.heap.size, 2, none⟩) (by simp)).trans (show _ = some (.int .u64 (r1 : Int)) by simp); have x3 := (hBz.cell (p := ⟨w.heap.size, 3, none⟩) (by simp)).trans (show _ = some (.int .u64 (i1 : Int)) by simp); have x4 := (hBz.cell (p := ⟨w.heap.size, 4, none⟩) (by simp)).trans (show _ = some (.int .u64 (a1 : Int)) by simp); have x5 := (hBz.cell (p := ⟨w.heap.size, 5, none⟩) (by simp)).trans (show _ = some (.int .u64 (c1 : Int)) by simp); have x6 := (hBz.cell (p := ⟨w.heap.size, 6, none⟩) (by simp)).trans (show _ = some (.bool y1) by simp); have x7 := (hBz.cell (p := ⟨w.heap.size, 7, none⟩) (by simp)).trans (show _ = some (.slice pl1 L1.length cl1) by simp); have x8 := (hBz.cell (p := ⟨w.heap.size, 8, none⟩) (by simp)).trans (show _ = some (.slice pd1 D1.length cd1) by simp); have HB2b := Lib.hid (HB2.out.alloc HB2.out.size (.cells #[.bool true, .bool false, .bool false, .bool false, .bool true, .bool false, .bool false] 112)); have HL2b := Lib.hid (HL2.out.keeps ((Keeps.refl w2).alloc (.cells #[.bool true, .bool false, .bool false, .bool false, .bool true, .bool false, .bool false] 112))); clear hB hBz HF))
          | (refine wpList_alloc_zero rfl 112 rfl _ hz112 ?_)
          | (refine wpList_store_rowTo rfl 112 (.tmp 3) (.tmp 6) rfl rfl _ #[.bool true, .bool false, .bool false, .bool false, .bool true, .bool false, .bool false] rfl rfl 112 #[.bool false, .bool false, .bool false, .bool false, .bool false, .bool false, .bool false] (heap_alloc_new w2 _) (show _ = some 7 by kernel_rfl) rfl (by simp [Value.oneCell']) ?_; rw [alloc_setRow]))
        go_ret
        exact ⟨rfl, HB2b.out⟩
      case pos =>
        have G3 := Lib.hid g3
        have p3a : (c1 != 0) = false := by simp [g3]
        have p3b : ((c1 : Int) != 0) = false := by simp [g3]
        have p3c : ((c1 : Int) == 0) = true := by simp [g3]
        have p3d : decide ((c1 : Int) = 0) = true := by simp [g3]
        have p3e : decide (4611686018427387904 < c1) = false := by simp [g3]
        have p3f : decide ((4611686018427387904 : Int) < (c1 : Int)) = false := by simp [g3]
        clear g3
        by_cases gl : L1.length = 0
        case neg =>
          have e1 : decide (0 < L1.length) = true := by simp; omega
          have e2 : decide ((0 : Int) < (L1.length : Int)) = true := by simp; omega
          have hq : mayN ⟨2, t1, r1, i1, a1, c1, y1, L1, D1⟩ = false := by unfold mayN; simp only [decide_eq_false_iff_not]; intro e; exact gl (e.2.2.2.2.2.2.2.2.2.1 rfl)
          rw [hq]
          clear hq
          clear gl hn
          go_enter Try.func46, Try.ntmps46
          go_wp2_with (first
            | (go_at_call 68; go_loud (refine (HF.out).mono ?_; rintro e w2 ⟨rfl, hB⟩; have HB2 := Lib.hid (HB0.out.trans (hB.mono HB0.out.size)); have HL2 := Lib.hid (HL1.out.keeps hB.block); have hBz := hB.alloc hB.size (.cells #[.bool true, .bool false, .bool false, .bool false, .bool true, .bool false, .bool false] 112); have x0 := (hBz.cell (p := ⟨w.heap.size, 0, none⟩) (by simp)).trans (show _ = some (.int .u8 2) by simp); have x2 := (hBz.cell (p := ⟨w.heap.size, 2, none⟩) (by simp)).trans (show _ = some (.int .u64 (r1 : Int)) by simp); have x3 := (hBz.cell (p := ⟨w.heap.size, 3, none⟩) (by simp)).trans (show _ = some (.int .u64 (i1 : Int)) by simp); have x4 := (hBz.cell (p := ⟨w.heap.size, 4, none⟩) (by simp)).trans (show _ = some (.int .u64 (a1 : Int)) by simp); have x5 := (hBz.cell (p := ⟨w.heap.size, 5, none⟩) (by simp)).trans (show _ = some (.int .u64 (c1 : Int)) by simp); have x6 := (hBz.cell (p := ⟨w.heap.size, 6, none⟩) (by simp)).trans (show _ = some (.bool y1) by simp); have x7 := (hBz.cell (p := ⟨w.heap.size, 7, none⟩) (by simp)).trans (show _ = some (.slice pl1 L1.length cl1) by simp); have x8 := (hBz.cell (p := ⟨w.heap.size, 8, none⟩) (by simp)).trans (show _ = some (.slice pd1 D1.length cd1) by simp); have HB2b := Lib.hid (HB2.out.alloc HB2.out.size (.cells #[.bool true, .bool false, .bool false, .bool false, .bool true, .bool false, .bool false] 112)); have HL2b := Lib.hid (HL2.out.keeps ((Keeps.refl w2).alloc (.cells #[.bool true, .bool false, .bool false, .bool false, .bool true, .bool false, .bool false] 112))); clear hB hBz HF))
            | (refine wpList_alloc_zero rfl 112 rfl _ hz112 ?_)
            | (refine wpList_store_rowTo rfl 112 (.tmp 3) (.tmp 6) rfl rfl _ #[.bool true, .bool false, .bool false, .bool false, .bool true, .bool false, .bool false] rfl rfl 112 #[.bool false, .bool false, .bool false, .bool false, .bool false, .bool false, .bool false] (heap_alloc_new w2 _) (show _ = some 7 by kernel_rfl) rfl (by simp [Value.oneCell']) ?_; rw [alloc_setRow]))
          go_ret
          exact ⟨rfl, HB2b.out⟩
        case pos =>
          have glH := Lib.hid gl
          have gl1 : decide (0 < L1.length) = false := by simp [gl]
          have gl2 : decide ((0 : Int) < (L1.length : Int)) = false := by simp [gl]
          have gl3 : decide (L1.length ≤ 16) = true := by simp [gl]
          have gl4 : decide ((L1.length : Int) ≤ 16) = true := by simp [gl]
          clear gl
          by_cases gd : D1.length = 0
          case neg =>
            have e1 : decide (0 < D1.length) = true := by simp; omega
            have e2 : decide ((0 : Int) < (D1.length : Int)) = true := by simp; omega
            have hq : mayN ⟨2, t1, r1, i1, a1, c1, y1, L1, D1⟩ = false := by unfold mayN; simp only [decide_eq_false_iff_not]; intro e; exact gd (e.2.2.2.2.2.2.2.2.2.2.1 rfl)
            rw [hq]
            clear hq
            clear gd hn
            go_enter Try.func46, Try.ntmps46
            go_wp2_with (first
              | (go_at_call 68; go_loud (refine (HF.out).mono ?_; rintro e w2 ⟨rfl, hB⟩; have HB2 := Lib.hid (HB0.out.trans (hB.mono HB0.out.size)); have HL2 := Lib.hid (HL1.out.keeps hB.block); have hBz := hB.alloc hB.size (.cells #[.bool true, .bool false, .bool false, .bool false, .bool true, .bool false, .bool false] 112); have x0 := (hBz.cell (p := ⟨w.heap.size, 0, none⟩) (by simp)).trans (show _ = some (.int .u8 2) by simp); have x2 := (hBz.cell (p := ⟨w.heap.size, 2, none⟩) (by simp)).trans (show _ = some (.int .u64 (r1 : Int)) by simp); have x3 := (hBz.cell (p := ⟨w.heap.size, 3, none⟩) (by simp)).trans (show _ = some (.int .u64 (i1 : Int)) by simp); have x4 := (hBz.cell (p := ⟨w.heap.size, 4, none⟩) (by simp)).trans (show _ = some (.int .u64 (a1 : Int)) by simp); have x5 := (hBz.cell (p := ⟨w.heap.size, 5, none⟩) (by simp)).trans (show _ = some (.int .u64 (c1 : Int)) by simp); have x6 := (hBz.cell (p := ⟨w.heap.size, 6, none⟩) (by simp)).trans (show _ = some (.bool y1) by simp); have x7 := (hBz.cell (p := ⟨w.heap.size, 7, none⟩) (by simp)).trans (show _ = some (.slice pl1 L1.length cl1) by simp); have x8 := (hBz.cell (p := ⟨w.heap.size, 8, none⟩) (by simp)).trans (show _ = some (.slice pd1 D1.length cd1) by simp); have HB2b := Lib.hid (HB2.out.alloc HB2.out.size (.cells #[.bool true, .bool false, .bool false, .bool false, .bool true, .bool false, .bool false] 112)); have HL2b := Lib.hid (HL2.out.keeps ((Keeps.refl w2).alloc (.cells #[.bool true, .bool false, .bool false, .bool false, .bool true, .bool false, .bool false] 112))); clear hB hBz HF))
              | (refine wpList_alloc_zero rfl 112 rfl _ hz112 ?_)
              | (refine wpList_store_rowTo rfl 112 (.tmp 3) (.tmp 6) rfl rfl _ #[.bool true, .bool false, .bool false, .bool false, .bool true, .bool false, .bool false] rfl rfl 112 #[.bool false, .bool false, .bool false, .bool false, .bool false, .bool false, .bool false] (heap_alloc_new w2 _) (show _ = some 7 by kernel_rfl) rfl (by simp [Value.oneCell']) ?_; rw [alloc_setRow]))
            go_ret
            exact ⟨rfl, HB2b.out⟩
          case pos =>
            have gdH := Lib.hid gd
            have gd1 : decide (0 < D1.length) = false := by simp [gd]
            have gd2 : decide ((0 : Int) < (D1.length : Int)) = false := by simp [gd]
            have gd3 : decide (D1.length ≤ 524288) = true := by simp [gd]
            have gd4 : decide ((D1.length : Int) ≤ 524288) = true := by simp [gd]
            clear gd
            have hq : mayN ⟨2, t1, r1, i1, a1, c1, y1, L1, D1⟩ = !anyLong L1 := by
              cases hl : anyLong L1 with
              | true => unfold mayN; simp only [Bool.not_true, decide_eq_false_iff_not]; intro e; have := e.2.2.2.2.2.2.2.2.2.2.2.2.2; (try dsimp only at this); rw [hl] at this; cases this
              | false => unfold mayN; simp only [Bool.not_false, decide_eq_true_eq]; exact ⟨(by decide), (by decide), (fun h => absurd h (by decide)), (fun _ => G1.out), (fun _ => G2.out), (fun _ => G3.out), (by have h0 := G1.out; omega), (by have h0 := G3.out; omega), (fun h => absurd h (by decide)), (fun _ => glH.out), (fun _ => gdH.out), (by have h0 := glH.out; omega), (by have h0 := gdH.out; omega), hl⟩
            rw [hq]
            clear hq
            have HC := Lib.hid (fun (W : World) (hW : EsR W S1 (.slice pl1 L1.length cl1) L1) => containsFunc_w S1 _ L1 W hW hn)
            generalize anyLong L1 = q at *
            go_enter Try.func46, Try.ntmps46
            go_wp2_with (first
              | (go_at_call 68; go_loud (refine (HF.out).mono ?_; rintro e w2 ⟨rfl, hB⟩; have HB2 := Lib.hid (HB0.out.trans (hB.mono HB0.out.size)); have HL2 := Lib.hid (HL1.out.keeps hB.block); have hBz := hB.alloc hB.size (.cells #[.bool true, .bool false, .bool false, .bool false, .bool true, .bool false, .bool false] 112); have x0 := (hBz.cell (p := ⟨w.heap.size, 0, none⟩) (by simp)).trans (show _ = some (.int .u8 2) by simp); have x2 := (hBz.cell (p := ⟨w.heap.size, 2, none⟩) (by simp)).trans (show _ = some (.int .u64 (r1 : Int)) by simp); have x3 := (hBz.cell (p := ⟨w.heap.size, 3, none⟩) (by simp)).trans (show _ = some (.int .u64 (i1 : Int)) by simp); have x4 := (hBz.cell (p := ⟨w.heap.size, 4, none⟩) (by simp)).trans (show _ = some (.int .u64 (a1 : Int)) by simp); have x5 := (hBz.cell (p := ⟨w.heap.size, 5, none⟩) (by simp)).trans (show _ = some (.int .u64 (c1 : Int)) by simp); have x6 := (hBz.cell (p := ⟨w.heap.size, 6, none⟩) (by simp)).trans (show _ = some (.bool y1) by simp); have x7 := (hBz.cell (p := ⟨w.heap.size, 7, none⟩) (by simp)).trans (show _ = some (.slice pl1 L1.length cl1) by simp); have x8 := (hBz.cell (p := ⟨w.heap.size, 8, none⟩) (by simp)).trans (show _ = some (.slice pd1 D1.length cd1) by simp); have HB2b := Lib.hid (HB2.out.alloc HB2.out.size (.cells #[.bool true, .bool false, .bool false, .bool false, .bool true, .bool false, .bool false] 112)); have HL2b := Lib.hid (HL2.out.keeps ((Keeps.refl w2).alloc (.cells #[.bool true, .bool false, .bool false, .bool false, .bool true, .bool false, .bool false] 112))); clear hB hBz HF))
              | (refine wpList_alloc_zero rfl 112 rfl _ hz112 ?_)
              | (refine wpList_store_rowTo rfl 112 (.tmp 3) (.tmp 6) rfl rfl _ #[.bool true, .bool false, .bool false, .bool false, .bool true, .bool false, .bool false] rfl rfl 112 #[.bool false, .bool false, .bool false, .bool false, .bool false, .bool false, .bool false] (heap_alloc_new w2 _) (show _ = some 7 by kernel_rfl) rfl (by simp [Value.oneCell']) ?_; rw [alloc_setRow])
              | (go_at_call 92; refine (HC.out _ HL2b.out).mono ?_; rintro e w4 ⟨rfl, hB⟩; have HB4 := Lib.hid (HB2b.out.trans (hB.mono HB2b.out.size)); clear hB HC))
            go_ret
            exact ⟨rfl, HB4.out⟩
end Go.Proofs.Yteellfgiejnigaa
