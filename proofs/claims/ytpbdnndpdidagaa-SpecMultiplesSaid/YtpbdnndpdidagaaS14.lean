/- The document's quantities; the law of what may be. -/
import Derived.Test.YtpbdnndpdidagaaS13
namespace Go.Proofs.Ytpbdnndpdidagaa
open Go.ChangeShapes Go.WideShapes Go.ChangeAt Go.RowKit
set_option linter.unusedVariables false

set_option maxRecDepth 100000 in
set_option maxHeartbeats 1600000 in
theorem refisqty_w (s : Sp) (n : Int) (w : World) (h : s.ok) (hn63 : n ≤ 9223372036854775807) : Calls Try.prog 57 #[.agg s.cells, .int .i64 n] w fun r w' => r = .returned (.bool (s.isQty n)) ∧ Below w.heap.size w w' := by
  have HB := Lib.hid ((Below.refl w.heap.size w).alloc (Nat.le_refl _) (.cells s.cells 66))
  have HS := Lib.hid (SpAt.new w s)
  have Hm := Lib.hid (fun W => refmay_w s W h)
  have Ht := Lib.hid (@Sp.may_tick s)
  have hp : s.isQty n = (s.mayB && (Form.inB n 1 1000000 && decide (n % s.lot = 0))) := rfl
  obtain ⟨q2, hq2⟩ : ∃ q, Form.inB n 1 1000000 = q := ⟨_, rfl⟩
  have Ha := Lib.hid (among_w n 1 1000000)
  rw [hq2] at Ha hp
  rw [hp]
  generalize s.mayB = q at *
  clear hp
  cases q with
  | false =>
    clear hq2
    go_enter Try.func57, Try.ntmps57
    go_wp2
    apply RegT.wp_region_T rfl 22 17 rfl (by kernel_rfl) RegT.Grow RegT.Grow.refl RegT.Grow.trans
    · apply RegT.T_pure (v := .agg s.cells) rfl rfl rfl
      · exact fun W hR => load_exec (.tmp 2) rfl rfl (HS.out.below (Below.trans (Below.refl (w.alloc (.cells s.cells 66)).heap.size (w.alloc (.cells s.cells 66))).drew hR))
      simp only [List.set_cons_succ, List.set_cons_zero, Nat.reduceAdd]
      apply RegT.T_const rfl rfl rfl (.bool false) (fun _ _ h => h)
      · intro W hR _
        have Hc := Lib.hid (Hm.out W)
        clear hR
        go_simp
        exact RegT.OpOK_enter Hc.out (fun e w' h => ⟨_, h.1, rfl, h.2⟩)
      simp only [List.set_cons_succ, List.set_cons_zero, Nat.reduceAdd]
      iterate 1
        apply RegT.T_pure rfl rfl rfl
        · intro W hR; go_simp; rfl
        simp only [List.set_cons_succ, List.set_cons_zero, Nat.reduceAdd]
      iterate 2
        apply RegT.T_skip rfl rfl rfl
        simp only [List.set_cons_succ, List.set_cons_zero, Nat.reduceAdd]
      iterate 2
        apply RegT.T_pure rfl rfl rfl
        · intro W hR; go_simp; rfl
        simp only [List.set_cons_succ, List.set_cons_zero, Nat.reduceAdd]
      iterate 9
        apply RegT.T_skip rfl rfl rfl
        simp only [List.set_cons_succ, List.set_cons_zero, Nat.reduceAdd]
      iterate 1
        apply RegT.T_pure rfl rfl rfl
        · intro W hR; go_simp; rfl
        simp only [List.set_cons_succ, List.set_cons_zero, Nat.reduceAdd]
      refine RegT.T_tail (fun W hR hf => ?_)
      have HR := Lib.hid hR
      clear hR hf
      simp only [List.drop_succ_cons, List.drop_zero]
      go_wp2
      go_ret
      exact ⟨rfl, HB.out.trans ((Below.trans (Below.refl (w.alloc (.cells s.cells 66)).heap.size (w.alloc (.cells s.cells 66))).drew HR.out).mono HB.out.size)⟩
    · rfl
    · kernel_rfl
  | true =>
    have ht := (Ht.out rfl).2.1
    cases q2 with
    | false =>
      clear hq2
      go_enter Try.func57, Try.ntmps57
      go_wp2
      apply RegT.wp_region_T rfl 22 17 rfl (by kernel_rfl) RegT.Grow RegT.Grow.refl RegT.Grow.trans
      · apply RegT.T_pure (v := .agg s.cells) rfl rfl rfl
        · exact fun W hR => load_exec (.tmp 2) rfl rfl (HS.out.below (Below.trans (Below.refl (w.alloc (.cells s.cells 66)).heap.size (w.alloc (.cells s.cells 66))).drew hR))
        simp only [List.set_cons_succ, List.set_cons_zero, Nat.reduceAdd]
        apply RegT.T_const rfl rfl rfl (.bool true) (fun _ _ h => h)
        · intro W hR _
          have Hc := Lib.hid (Hm.out W)
          clear hR
          go_simp
          exact RegT.OpOK_enter Hc.out (fun e w' h => ⟨_, h.1, rfl, h.2⟩)
        simp only [List.set_cons_succ, List.set_cons_zero, Nat.reduceAdd]
        iterate 2
          apply RegT.T_pure rfl rfl rfl
          · intro W hR; go_simp; rfl
          simp only [List.set_cons_succ, List.set_cons_zero, Nat.reduceAdd]
        apply RegT.T_const rfl rfl rfl (.bool false) (fun _ _ h => h)
        · intro W hR _
          have Hc := Lib.hid (Ha.out W)
          clear hR
          go_simp
          exact RegT.OpOK_enter Hc.out (fun e w' h => ⟨_, h.1, rfl, by rw [← h.2]; exact RegT.Grow.refl _⟩)
        simp only [List.set_cons_succ, List.set_cons_zero, Nat.reduceAdd]
        iterate 2
          apply RegT.T_pure rfl rfl rfl
          · intro W hR; go_simp; rfl
          simp only [List.set_cons_succ, List.set_cons_zero, Nat.reduceAdd]
        iterate 9
          apply RegT.T_skip rfl rfl rfl
          simp only [List.set_cons_succ, List.set_cons_zero, Nat.reduceAdd]
        iterate 1
          apply RegT.T_pure rfl rfl rfl
          · intro W hR; go_simp; rfl
          simp only [List.set_cons_succ, List.set_cons_zero, Nat.reduceAdd]
        refine RegT.T_tail (fun W hR hf => ?_)
        have HR := Lib.hid hR
        clear hR hf
        simp only [List.drop_succ_cons, List.drop_zero]
        go_wp2
        go_ret
        exact ⟨rfl, HB.out.trans ((Below.trans (Below.refl (w.alloc (.cells s.cells 66)).heap.size (w.alloc (.cells s.cells 66))).drew HR.out).mono HB.out.size)⟩
      · rfl
      · kernel_rfl
    | true =>
      have hn : 1 ≤ n := by unfold Form.inB at hq2; simp at hq2; omega
      obtain ⟨lot, hlot⟩ : ∃ z, s.lot = z := ⟨_, rfl⟩
      have D := Lib.hid (show s.cells[3]? = some (.int .i64 lot) by rw [← hlot]; rfl)
      rw [hlot] at ht
      rw [hlot]
      obtain ⟨q, hq⟩ : ∃ q, n / lot = q := ⟨_, rfl⟩
      obtain ⟨z, hz⟩ : ∃ z, q * lot = z := ⟨_, rfl⟩
      have hzz : n % lot = 0 ↔ z = n := by
        have := Int.emod_add_mul_ediv n lot
        rw [hq] at this
        rw [← hz, Int.mul_comm q]
        omega
      have hqb : 0 ≤ z ∧ z ≤ n := by
        have h3 := Int.emod_add_mul_ediv n lot
        have h4 := Int.emod_nonneg n (show lot ≠ 0 by omega)
        have h5 : 0 ≤ n / lot := Int.ediv_nonneg (by omega) (by omega)
        rw [hq] at h3 h5
        rw [← hz, Int.mul_comm q]
        refine ⟨Int.mul_nonneg (by omega) h5, by omega⟩
      have hw : IntKind.i64.wrap z = z := IntWalk.i64_in _ (by omega)
      have hl0 : (lot = 0) = False := by simp; omega
      have htd : n.tdiv lot = q := by rw [Int.tdiv_eq_ediv_of_nonneg (by omega)]; exact hq
      have hwq : IntKind.i64.wrap q = q := by
        have h5 : 0 ≤ n / lot := Int.ediv_nonneg (by omega) (by omega)
        have h6 : n / lot ≤ n := Int.ediv_le_self _ (by omega)
        rw [hq] at h5 h6
        exact IntWalk.i64_in _ (by omega)
      obtain ⟨zb, hzb⟩ : ∃ zb, decide (z = n) = zb := ⟨_, rfl⟩
      have hz2 : (z == n) = zb := by rw [← hzb, Bool.eq_iff_iff]; simp
      have e : decide (n % lot = 0) = zb := by rw [← hzb]; exact decide_eq_decide.2 hzz
      rw [e]
      clear hzz e hlot hq2
      go_enter Try.func57, Try.ntmps57
      go_wp2
      apply RegT.wp_region_T rfl 22 17 rfl (by kernel_rfl) RegT.Grow RegT.Grow.refl RegT.Grow.trans
      · apply RegT.T_pure (v := .agg s.cells) rfl rfl rfl
        · exact fun W hR => load_exec (.tmp 2) rfl rfl (HS.out.below (Below.trans (Below.refl (w.alloc (.cells s.cells 66)).heap.size (w.alloc (.cells s.cells 66))).drew hR))
        simp only [List.set_cons_succ, List.set_cons_zero, Nat.reduceAdd]
        apply RegT.T_const rfl rfl rfl (.bool true) (fun _ _ h => h)
        · intro W hR _
          have Hc := Lib.hid (Hm.out W)
          clear hR
          go_simp
          exact RegT.OpOK_enter Hc.out (fun e w' h => ⟨_, h.1, rfl, h.2⟩)
        simp only [List.set_cons_succ, List.set_cons_zero, Nat.reduceAdd]
        iterate 2
          apply RegT.T_pure rfl rfl rfl
          · intro W hR; go_simp; rfl
          simp only [List.set_cons_succ, List.set_cons_zero, Nat.reduceAdd]
        apply RegT.T_const rfl rfl rfl (.bool true) (fun _ _ h => h)
        · intro W hR _
          have Hc := Lib.hid (Ha.out W)
          clear hR
          go_simp
          exact RegT.OpOK_enter Hc.out (fun e w' h => ⟨_, h.1, rfl, by rw [← h.2]; exact RegT.Grow.refl _⟩)
        simp only [List.set_cons_succ, List.set_cons_zero, Nat.reduceAdd]
        iterate 3
          apply RegT.T_pure rfl rfl rfl
          · intro W hR; go_simp; rfl
          simp only [List.set_cons_succ, List.set_cons_zero, Nat.reduceAdd]
        iterate 8
          apply RegT.T_pure rfl rfl rfl
          · intro W hR
            have hx3 : W.cell? ⟨w.heap.size, 3, none⟩ = some (.int .i64 lot) := ((HS.out.below (Below.trans (Below.refl (w.alloc (.cells s.cells 66)).heap.size (w.alloc (.cells s.cells 66))).drew hR)).at 3).trans D.out
            clear hR
            go_simp; rfl
          simp only [List.set_cons_succ, List.set_cons_zero, Nat.reduceAdd]
        iterate 1
          apply RegT.T_pure rfl rfl rfl
          · intro W hR; go_simp; rfl
          simp only [List.set_cons_succ, List.set_cons_zero, Nat.reduceAdd]
        refine RegT.T_tail (fun W hR hf => ?_)
        have HR := Lib.hid hR
        clear hR hf
        simp only [List.drop_succ_cons, List.drop_zero]
        go_wp2
        go_ret
        exact ⟨by simp, HB.out.trans ((Below.trans (Below.refl (w.alloc (.cells s.cells 66)).heap.size (w.alloc (.cells s.cells 66))).drew HR.out).mono HB.out.size)⟩
      · rfl
      · kernel_rfl
end Go.Proofs.Ytpbdnndpdidagaa
