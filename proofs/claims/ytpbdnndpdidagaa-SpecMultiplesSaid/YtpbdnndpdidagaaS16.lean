/- The law of what may be. -/
import Derived.Test.YtpbdnndpdidagaaS14
namespace Go.Proofs.Ytpbdnndpdidagaa
open Go.ChangeShapes Go.WideShapes Go.ChangeAt Go.RowKit
set_option linter.unusedVariables false

theorem Sp.inBand_comm (s : Sp) (a n : Int) : s.inBand n a = s.inBand a n := by
  unfold Sp.inBand
  congr 1
  exact decide_eq_decide.2 (by omega)

set_option maxRecDepth 100000 in
set_option maxHeartbeats 3200000 in
theorem may_law_w (s : Sp) (a n : Int) (w : World) (h : s.ok) (ha : Sp.i64 a) (hn : Sp.i64 n) : Calls Try.prog 14 #[.agg s.cells, .int .i64 a, .int .i64 n] w fun r w' => r = .returned (.bool true) ∧ Below w.heap.size w w' := by
  have HB := Lib.hid ((Below.refl w.heap.size w).alloc (Nat.le_refl _) (.cells s.cells 66))
  have HS := Lib.hid (SpAt.new w s)
  have HM := Lib.hid (fun W => may_w s W h)
  have HM2 := Lib.hid (fun W => refmay_w s W h)
  have HP := Lib.hid (fun W => isprice_w s a W h)
  have HP2 := Lib.hid (fun W => refisprice_w s a W h ha.2)
  have HQ := Lib.hid (fun W => isqty_w s a W h)
  have HQ2 := Lib.hid (fun W => refisqty_w s a W h ha.2)
  have HD := Lib.hid (fun W => inband_w s a n W h ha hn)
  have HD2 := Lib.hid (fun W => refinband_w s a n W h ha hn)
  have HE := Lib.hid (fun W => inband_w s n a W h hn ha)
  rw [s.inBand_comm] at HE
  clear h ha hn
  generalize s.mayB = qm at *
  generalize s.isPrice a = qp at *
  generalize s.isQty a = qq at *
  generalize s.inBand a n = qb at *
  go_enter Try.func14, Try.ntmps14
  go_wp2
  apply RegT.wp_region_T rfl 55 48 rfl (by kernel_rfl) RegT.Grow RegT.Grow.refl RegT.Grow.trans
  · apply RegT.T_pure (v := .agg s.cells) rfl rfl rfl
    · exact fun W hR => load_exec (.tmp 3) rfl rfl (HS.out.below (Below.trans (Below.refl (w.alloc (.cells s.cells 66)).heap.size (w.alloc (.cells s.cells 66))).drew hR))
    simp only [List.set_cons_succ, List.set_cons_zero, Nat.reduceAdd]
    apply RegT.T_const rfl rfl rfl (.bool qm) (fun _ _ h => h)
    · intro W hR _
      have Hc := Lib.hid (HM.out W)
      clear hR
      go_simp
      exact RegT.OpOK_enter Hc.out (fun e w' h => ⟨_, h.1, rfl, h.2⟩)
    simp only [List.set_cons_succ, List.set_cons_zero, Nat.reduceAdd]
    apply RegT.T_pure (v := .agg s.cells) rfl rfl rfl
    · exact fun W hR => load_exec (.tmp 3) rfl rfl (HS.out.below (Below.trans (Below.refl (w.alloc (.cells s.cells 66)).heap.size (w.alloc (.cells s.cells 66))).drew hR))
    simp only [List.set_cons_succ, List.set_cons_zero, Nat.reduceAdd]
    apply RegT.T_const rfl rfl rfl (.bool qm) (fun _ _ h => h)
    · intro W hR _
      have Hc := Lib.hid (HM2.out W)
      clear hR
      go_simp
      exact RegT.OpOK_enter Hc.out (fun e w' h => ⟨_, h.1, rfl, h.2⟩)
    simp only [List.set_cons_succ, List.set_cons_zero, Nat.reduceAdd]
    apply RegT.T_pure (v := .bool true) rfl rfl rfl
    · intro W hR; clear hR; go_simp
    simp only [List.set_cons_succ, List.set_cons_zero, Nat.reduceAdd]
    iterate 1
      apply RegT.T_pure rfl rfl rfl
      · intro W hR; go_simp; rfl
      simp only [List.set_cons_succ, List.set_cons_zero, Nat.reduceAdd]
    apply RegT.T_pure (v := .agg s.cells) rfl rfl rfl
    · exact fun W hR => load_exec (.tmp 3) rfl rfl (HS.out.below (Below.trans (Below.refl (w.alloc (.cells s.cells 66)).heap.size (w.alloc (.cells s.cells 66))).drew hR))
    simp only [List.set_cons_succ, List.set_cons_zero, Nat.reduceAdd]
    iterate 1
      apply RegT.T_pure rfl rfl rfl
      · intro W hR; go_simp; rfl
      simp only [List.set_cons_succ, List.set_cons_zero, Nat.reduceAdd]
    apply RegT.T_const rfl rfl rfl (.bool qp) (fun _ _ h => h)
    · intro W hR _
      have Hc := Lib.hid (HP.out W)
      clear hR
      go_simp
      exact RegT.OpOK_enter Hc.out (fun e w' h => ⟨_, h.1, rfl, h.2⟩)
    simp only [List.set_cons_succ, List.set_cons_zero, Nat.reduceAdd]
    apply RegT.T_pure (v := .agg s.cells) rfl rfl rfl
    · exact fun W hR => load_exec (.tmp 3) rfl rfl (HS.out.below (Below.trans (Below.refl (w.alloc (.cells s.cells 66)).heap.size (w.alloc (.cells s.cells 66))).drew hR))
    simp only [List.set_cons_succ, List.set_cons_zero, Nat.reduceAdd]
    iterate 1
      apply RegT.T_pure rfl rfl rfl
      · intro W hR; go_simp; rfl
      simp only [List.set_cons_succ, List.set_cons_zero, Nat.reduceAdd]
    apply RegT.T_const rfl rfl rfl (.bool qp) (fun _ _ h => h)
    · intro W hR _
      have Hc := Lib.hid (HP2.out W)
      clear hR
      go_simp
      exact RegT.OpOK_enter Hc.out (fun e w' h => ⟨_, h.1, rfl, h.2⟩)
    simp only [List.set_cons_succ, List.set_cons_zero, Nat.reduceAdd]
    apply RegT.T_pure (v := .bool true) rfl rfl rfl
    · intro W hR; clear hR; go_simp
    simp only [List.set_cons_succ, List.set_cons_zero, Nat.reduceAdd]
    iterate 2
      apply RegT.T_pure rfl rfl rfl
      · intro W hR; go_simp; rfl
      simp only [List.set_cons_succ, List.set_cons_zero, Nat.reduceAdd]
    apply RegT.T_pure (v := .agg s.cells) rfl rfl rfl
    · exact fun W hR => load_exec (.tmp 3) rfl rfl (HS.out.below (Below.trans (Below.refl (w.alloc (.cells s.cells 66)).heap.size (w.alloc (.cells s.cells 66))).drew hR))
    simp only [List.set_cons_succ, List.set_cons_zero, Nat.reduceAdd]
    iterate 1
      apply RegT.T_pure rfl rfl rfl
      · intro W hR; go_simp; rfl
      simp only [List.set_cons_succ, List.set_cons_zero, Nat.reduceAdd]
    apply RegT.T_const rfl rfl rfl (.bool qq) (fun _ _ h => h)
    · intro W hR _
      have Hc := Lib.hid (HQ.out W)
      clear hR
      go_simp
      exact RegT.OpOK_enter Hc.out (fun e w' h => ⟨_, h.1, rfl, h.2⟩)
    simp only [List.set_cons_succ, List.set_cons_zero, Nat.reduceAdd]
    apply RegT.T_pure (v := .agg s.cells) rfl rfl rfl
    · exact fun W hR => load_exec (.tmp 3) rfl rfl (HS.out.below (Below.trans (Below.refl (w.alloc (.cells s.cells 66)).heap.size (w.alloc (.cells s.cells 66))).drew hR))
    simp only [List.set_cons_succ, List.set_cons_zero, Nat.reduceAdd]
    iterate 1
      apply RegT.T_pure rfl rfl rfl
      · intro W hR; go_simp; rfl
      simp only [List.set_cons_succ, List.set_cons_zero, Nat.reduceAdd]
    apply RegT.T_const rfl rfl rfl (.bool qq) (fun _ _ h => h)
    · intro W hR _
      have Hc := Lib.hid (HQ2.out W)
      clear hR
      go_simp
      exact RegT.OpOK_enter Hc.out (fun e w' h => ⟨_, h.1, rfl, h.2⟩)
    simp only [List.set_cons_succ, List.set_cons_zero, Nat.reduceAdd]
    apply RegT.T_pure (v := .bool true) rfl rfl rfl
    · intro W hR; clear hR; go_simp
    simp only [List.set_cons_succ, List.set_cons_zero, Nat.reduceAdd]
    iterate 2
      apply RegT.T_pure rfl rfl rfl
      · intro W hR; go_simp; rfl
      simp only [List.set_cons_succ, List.set_cons_zero, Nat.reduceAdd]
    apply RegT.T_pure (v := .agg s.cells) rfl rfl rfl
    · exact fun W hR => load_exec (.tmp 3) rfl rfl (HS.out.below (Below.trans (Below.refl (w.alloc (.cells s.cells 66)).heap.size (w.alloc (.cells s.cells 66))).drew hR))
    simp only [List.set_cons_succ, List.set_cons_zero, Nat.reduceAdd]
    iterate 2
      apply RegT.T_pure rfl rfl rfl
      · intro W hR; go_simp; rfl
      simp only [List.set_cons_succ, List.set_cons_zero, Nat.reduceAdd]
    apply RegT.T_const rfl rfl rfl (.bool qb) (fun _ _ h => h)
    · intro W hR _
      have Hc := Lib.hid (HD.out W)
      clear hR
      go_simp
      exact RegT.OpOK_enter Hc.out (fun e w' h => ⟨_, h.1, rfl, h.2⟩)
    simp only [List.set_cons_succ, List.set_cons_zero, Nat.reduceAdd]
    apply RegT.T_pure (v := .agg s.cells) rfl rfl rfl
    · exact fun W hR => load_exec (.tmp 3) rfl rfl (HS.out.below (Below.trans (Below.refl (w.alloc (.cells s.cells 66)).heap.size (w.alloc (.cells s.cells 66))).drew hR))
    simp only [List.set_cons_succ, List.set_cons_zero, Nat.reduceAdd]
    iterate 2
      apply RegT.T_pure rfl rfl rfl
      · intro W hR; go_simp; rfl
      simp only [List.set_cons_succ, List.set_cons_zero, Nat.reduceAdd]
    apply RegT.T_const rfl rfl rfl (.bool qb) (fun _ _ h => h)
    · intro W hR _
      have Hc := Lib.hid (HD2.out W)
      clear hR
      go_simp
      exact RegT.OpOK_enter Hc.out (fun e w' h => ⟨_, h.1, rfl, h.2⟩)
    simp only [List.set_cons_succ, List.set_cons_zero, Nat.reduceAdd]
    apply RegT.T_pure (v := .bool true) rfl rfl rfl
    · intro W hR; clear hR; go_simp
    simp only [List.set_cons_succ, List.set_cons_zero, Nat.reduceAdd]
    iterate 2
      apply RegT.T_pure rfl rfl rfl
      · intro W hR; go_simp; rfl
      simp only [List.set_cons_succ, List.set_cons_zero, Nat.reduceAdd]
    apply RegT.T_pure (v := .agg s.cells) rfl rfl rfl
    · exact fun W hR => load_exec (.tmp 3) rfl rfl (HS.out.below (Below.trans (Below.refl (w.alloc (.cells s.cells 66)).heap.size (w.alloc (.cells s.cells 66))).drew hR))
    simp only [List.set_cons_succ, List.set_cons_zero, Nat.reduceAdd]
    iterate 2
      apply RegT.T_pure rfl rfl rfl
      · intro W hR; go_simp; rfl
      simp only [List.set_cons_succ, List.set_cons_zero, Nat.reduceAdd]
    apply RegT.T_const rfl rfl rfl (.bool qb) (fun _ _ h => h)
    · intro W hR _
      have Hc := Lib.hid (HE.out W)
      clear hR
      go_simp
      exact RegT.OpOK_enter Hc.out (fun e w' h => ⟨_, h.1, rfl, h.2⟩)
    simp only [List.set_cons_succ, List.set_cons_zero, Nat.reduceAdd]
    apply RegT.T_pure (v := .agg s.cells) rfl rfl rfl
    · exact fun W hR => load_exec (.tmp 3) rfl rfl (HS.out.below (Below.trans (Below.refl (w.alloc (.cells s.cells 66)).heap.size (w.alloc (.cells s.cells 66))).drew hR))
    simp only [List.set_cons_succ, List.set_cons_zero, Nat.reduceAdd]
    iterate 2
      apply RegT.T_pure rfl rfl rfl
      · intro W hR; go_simp; rfl
      simp only [List.set_cons_succ, List.set_cons_zero, Nat.reduceAdd]
    apply RegT.T_const rfl rfl rfl (.bool qb) (fun _ _ h => h)
    · intro W hR _
      have Hc := Lib.hid (HD2.out W)
      clear hR
      go_simp
      exact RegT.OpOK_enter Hc.out (fun e w' h => ⟨_, h.1, rfl, h.2⟩)
    simp only [List.set_cons_succ, List.set_cons_zero, Nat.reduceAdd]
    apply RegT.T_pure (v := .bool true) rfl rfl rfl
    · intro W hR; clear hR; go_simp
    simp only [List.set_cons_succ, List.set_cons_zero, Nat.reduceAdd]
    iterate 2
      apply RegT.T_pure rfl rfl rfl
      · intro W hR; go_simp; rfl
      simp only [List.set_cons_succ, List.set_cons_zero, Nat.reduceAdd]
    apply RegT.T_const rfl rfl rfl (.bool true) (fun _ _ h => h)
    · intro W hR _
      have Hc := Lib.hid (known4_w W)
      clear hR
      go_simp
      exact RegT.OpOK_enter Hc.out (fun e w' h => ⟨_, h.1, rfl, h.2⟩)
    simp only [List.set_cons_succ, List.set_cons_zero, Nat.reduceAdd]
    iterate 1
      apply RegT.T_pure rfl rfl rfl
      · intro W hR; go_simp; rfl
      simp only [List.set_cons_succ, List.set_cons_zero, Nat.reduceAdd]
    refine RegT.T_tail (fun W hR hf => ?_)
    have HR := Lib.hid hR
    clear hR hf
    simp only [List.drop_succ_cons, List.drop_zero]
    go_wp2
    go_ret
    exact ⟨rfl, HB.out.trans ((Below.trans (Below.refl (w.alloc (.cells s.cells 66)).heap.size (w.alloc (.cells s.cells 66))).drew HR.out).mono HB.out.size)⟩
  · rfl
  · kernel_rfl
end Go.Proofs.Ytpbdnndpdidagaa
