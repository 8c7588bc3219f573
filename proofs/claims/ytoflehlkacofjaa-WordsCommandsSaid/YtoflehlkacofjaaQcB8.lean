/- The walk of the law WordsCommands. -/
import Derived.Test.YtoflehlkacofjaaQcB7
namespace Go.Proofs.Ytoflehlkacofjaa
open Go.ChangeShapes Go.WideShapes Go.ChangeAt Go.RowKit
set_option linter.unusedVariables false
set_option maxRecDepth 100000 in
set_option maxHeartbeats 6400000 in
theorem cmds_no_w (x : Cm) (hok : x.ok) (hm : x.mayB = false) (w : World) : Calls Try.prog 5 #[.agg x.cells] w fun e w' => e = .returned (.bool true) ∧ Below w.heap.size w w' := by
  have H10 := Lib.hid (fun W => cmd_no_w x W hok hm)
  have H19 := Lib.hid (fun W => (show Calls Try.prog 19 #[.agg x.cells] W fun e w' => e = .returned (.bool false) ∧ Below W.heap.size W w' from by have h := may19_w x hok W; rw [hm] at h; exact h))
  have H20 := Lib.hid (fun W => (show Calls Try.prog 20 #[.agg x.cells] W fun e w' => e = .returned (.bool false) ∧ Below W.heap.size W w' from by have h := refmay20_w x hok W; rw [hm] at h; exact h))
  have hsz : x.cells.size = 35 := rfl
  have HX := Lib.hid (CcAt.new w x.cells)
  have HB0 := Lib.hid ((Below.refl w.heap.size w).alloc (Nat.le_refl _) (.cells x.cells 30))
  obtain ⟨cx, hcx⟩ : ∃ cx, x.cells = cx := ⟨_, rfl⟩
  rw [hcx] at H10 H19 H20 hsz HX HB0
  rw [hcx]
  clear hcx hok hm
  go_enter Try.func5, Try.ntmps5
  go_upto_region 2 with (first
    | (refine wpList_load_cc rfl (.tmp 1) rfl rfl HX.out hsz ?_)
    | (go_at_call 10; (with_reducible refine (H10.out _).mono ?_); rintro r w1 ⟨rfl, hB⟩; have HX := Lib.hid (HX.out.keeps hB.block); have HB1 := Lib.hid (HB0.out.trans (hB.mono HB0.out.size)); clear hB))
  have HQ := Lib.hid (fun (W : World) (hR : RegT.Grow w1.drew W) => HX.out.keeps ((Keeps.refl _).drew.trans (Below.keeps hR)))
  apply RegT.wp_region_T rfl 57 5 rfl (by kernel_rfl) RegT.Grow RegT.Grow.refl RegT.Grow.trans
  · apply RegT.T_pure rfl rfl rfl
    · exact fun W hR => load_cc (.tmp 1) rfl rfl (HQ.out W hR) hsz
    simp only [List.set_cons_succ, List.set_cons_zero, Nat.reduceAdd]
    apply RegT.T_const rfl rfl rfl (.bool false) (fun _ _ h => h)
    · intro W hR hf
      have Hc := Lib.hid (H19.out W)
      clear hR hf
      go_simp
      exact RegT.OpOK_enter Hc.out (fun e w' h => ⟨_, h.1, rfl, h.2⟩)
    simp only [List.set_cons_succ, List.set_cons_zero, Nat.reduceAdd]
    apply RegT.T_pure rfl rfl rfl
    · exact fun W hR => load_cc (.tmp 1) rfl rfl (HQ.out W hR) hsz
    simp only [List.set_cons_succ, List.set_cons_zero, Nat.reduceAdd]
    apply RegT.T_const rfl rfl rfl (.bool false) (fun _ _ h => h)
    · intro W hR hf
      have Hc := Lib.hid (H20.out W)
      clear hR hf
      go_simp
      exact RegT.OpOK_enter Hc.out (fun e w' h => ⟨_, h.1, rfl, h.2⟩)
    simp only [List.set_cons_succ, List.set_cons_zero, Nat.reduceAdd]
    apply RegT.T_pure (v := .bool false) rfl rfl rfl
    · intro W hR; clear hR; go_simp
    simp only [List.set_cons_succ, List.set_cons_zero, Nat.reduceAdd]
    refine RegT.T_end rfl (fun W2 hR hf => ?_)
    have HX := Lib.hid (HQ.out W2 hR)
    have HB2 := Lib.hid (HB1.out.trans (((Below.refl _ _).drew.trans hR).mono HB1.out.size))
    clear hR hf HQ
    go_wp2_with (first
      | (refine wpList_load_cc rfl (.tmp 1) rfl rfl HX.out hsz ?_)
      | (go_at_call 20; (with_reducible refine (H20.out _).mono ?_); rintro r w3 ⟨rfl, hB⟩; have HB3 := Lib.hid (HB2.out.trans (hB.mono HB2.out.size)); clear hB)
      | (go_at_call 9; (with_reducible refine (known9_w _).mono ?_); rintro r w4 ⟨rfl, hB⟩; have HB4 := Lib.hid (HB3.out.trans (hB.mono HB3.out.size)); clear hB))
    go_ret
    exact ⟨rfl, HB4.out⟩
  · rfl
  · kernel_rfl
set_option maxRecDepth 100000 in
set_option maxHeartbeats 6400000 in
theorem cmds_yes_w (x : Cm) (hok : x.ok) (hm : x.mayB = true) (w : World) : Calls Try.prog 5 #[.agg x.cells] w fun e w' => e = .returned (.bool true) ∧ Below w.heap.size w w' := by
  have hFl : x.form.length ≤ 1000000 := by
    have h := x.upto_le hok (flds x.kind).length
    rw [x.upto_all] at h
    have := flds_len x.kind
    omega
  have H10 := Lib.hid (fun W => cmd_yes_w x W hok hm)
  have H19 := Lib.hid (fun W => (show Calls Try.prog 19 #[.agg x.cells] W fun e w' => e = .returned (.bool true) ∧ Below W.heap.size W w' from by have h := may19_w x hok W; rw [hm] at h; exact h))
  have H20 := Lib.hid (fun W => (show Calls Try.prog 20 #[.agg x.cells] W fun e w' => e = .returned (.bool true) ∧ Below W.heap.size W w' from by have h := refmay20_w x hok W; rw [hm] at h; exact h))
  have H22 := Lib.hid (fun W => refcmd22_w x hok W)
  have H21 := Lib.hid (fun W v (hv : RdB W v x.form) => (show Calls Try.prog 21 #[v] W fun e w' => e = .returned (.tuple #[.agg x.cells, .int .i64 0]) ∧ Below W.heap.size W w' from by
    have h := read21_w v x.form W hv hFl
    obtain ⟨h1, h2⟩ := Cm.rdOk_form x hok hm
    refine h.mono ?_
    rintro e w' ⟨he, hB⟩
    rw [h1, h2] at he
    exact ⟨he, hB⟩))
  have HEq := Lib.hid (fun W => (show (binOp .eql 30 (.agg x.cells) (.agg x.cells)).run Try.prog W = .ok (.bool true) W from by rw [eql30, Cm.same_self]))
  have hsz : x.cells.size = 35 := rfl
  have HO := Lib.hid x.cells_one
  have HX := Lib.hid (CcAt.new w x.cells)
  have HB0 := Lib.hid ((Below.refl w.heap.size w).alloc (Nat.le_refl _) (.cells x.cells 30))
  obtain ⟨cx, hcx⟩ : ∃ cx, x.cells = cx := ⟨_, rfl⟩
  rw [hcx] at H10 H19 H20 H21 H22 hsz HX HB0 HEq HO
  rw [hcx]
  obtain ⟨F, hF⟩ : ∃ F, x.form = F := ⟨_, rfl⟩
  rw [hF] at H10 H22 H21
  obtain ⟨zc, hzc⟩ : ∃ zc, zC = zc := ⟨_, rfl⟩
  have hz := hz30
  rw [hzc] at hz
  have hzs : zc.size = 35 := by rw [← hzc]; rfl
  clear hcx hok hm hF hFl hzc
  go_enter Try.func5, Try.ntmps5
  go_upto_region 2 with (first
    | (refine wpList_load_cc rfl (.tmp 1) rfl rfl HX.out hsz ?_)
    | (go_at_call 10; (with_reducible refine (H10.out _).mono ?_); rintro r w1 ⟨⟨p1, n1, c1, rfl, hn1, ho1⟩, hB⟩; have HX := Lib.hid (HX.out.keeps hB.block); have HR := Lib.hid ho1.rd; have HB1 := Lib.hid (HB0.out.trans (hB.mono HB0.out.size)); clear hB hn1 ho1))
  have HQ := Lib.hid (fun (W : World) (hR : RegT.Grow w1.drew W) => HX.out.keeps ((Keeps.refl _).drew.trans (Below.keeps hR)))
  apply RegT.wp_region_T rfl 57 5 rfl (by kernel_rfl) RegT.Grow RegT.Grow.refl RegT.Grow.trans
  · apply RegT.T_pure rfl rfl rfl
    · exact fun W hR => load_cc (.tmp 1) rfl rfl (HQ.out W hR) hsz
    simp only [List.set_cons_succ, List.set_cons_zero, Nat.reduceAdd]
    apply RegT.T_const rfl rfl rfl (.bool true) (fun _ _ h => h)
    · intro W hR hf
      have Hc := Lib.hid (H19.out W)
      clear hR hf
      go_simp
      exact RegT.OpOK_enter Hc.out (fun e w' h => ⟨_, h.1, rfl, h.2⟩)
    simp only [List.set_cons_succ, List.set_cons_zero, Nat.reduceAdd]
    apply RegT.T_pure rfl rfl rfl
    · exact fun W hR => load_cc (.tmp 1) rfl rfl (HQ.out W hR) hsz
    simp only [List.set_cons_succ, List.set_cons_zero, Nat.reduceAdd]
    apply RegT.T_const rfl rfl rfl (.bool true) (fun _ _ h => h)
    · intro W hR hf
      have Hc := Lib.hid (H20.out W)
      clear hR hf
      go_simp
      exact RegT.OpOK_enter Hc.out (fun e w' h => ⟨_, h.1, rfl, h.2⟩)
    simp only [List.set_cons_succ, List.set_cons_zero, Nat.reduceAdd]
    apply RegT.T_pure (v := .bool false) rfl rfl rfl
    · intro W hR; clear hR; go_simp
    simp only [List.set_cons_succ, List.set_cons_zero, Nat.reduceAdd]
    refine RegT.T_end rfl (fun W2 hR hf => ?_)
    have HX := Lib.hid (HQ.out W2 hR)
    have HB2 := Lib.hid (HB1.out.trans (((Below.refl _ _).drew.trans hR).mono HB1.out.size))
    have HR := Lib.hid (HR.out.keeps ((Keeps.refl _).drew.trans (Below.keeps hR)))
    clear hR hf HQ
    go_upto_region 7 with (first
      | (refine wpList_load_cc rfl (.tmp 1) rfl rfl HX.out hsz ?_)
      | (go_at_call 20; (with_reducible refine (H20.out _).mono ?_); rintro r w3 ⟨rfl, hB⟩; have HX3 := Lib.hid (HX.out.keeps hB.block); have HR3 := Lib.hid (HR.out.keeps (Below.keeps hB)); have HB3 := Lib.hid (HB2.out.trans (hB.mono HB2.out.size)); clear hB)
      | (go_at_call 21; (with_reducible refine (H21.out _ _ HR3.out).mono ?_); rintro r w4 ⟨rfl, hB⟩; have HX4 := Lib.hid (HX3.out.keeps hB.block); have HR4 := Lib.hid (HR3.out.keeps (Below.keeps hB)); have HB4 := Lib.hid (HB3.out.trans (hB.mono HB3.out.size)); clear hB HX3 HR3)
      | (refine wpList_alloc_zero rfl 30 rfl _ hz ?_)
      | (refine wpList_store_rowTo rfl 30 (.tmp 5) (.tmp 33) rfl rfl _ cx rfl rfl 30 zc (heap_alloc_new w4 _) (show _ = some cx.size by rw [hsz]; kernel_rfl) (by rw [hsz, hzs]) HO.out ?_))
    rw [alloc_setRow]
    obtain ⟨W5, hW5⟩ : ∃ W5, w4.alloc (.cells cx 30) = W5 := ⟨_, rfl⟩
    have HDn := Lib.hid (CcAt.new w4 cx)
    have HX5 := Lib.hid (HX4.out.keeps ((Keeps.refl w4).alloc (.cells cx 30)))
    have HR5 := Lib.hid (HR4.out.keeps ((Keeps.refl w4).alloc (.cells cx 30)))
    have HB5 := Lib.hid (HB4.out.alloc HB4.out.size (.cells cx 30))
    rw [hW5] at HDn HX5 HR5 HB5
    rw [hW5]
    clear hW5 HX HR HX4 HR4
    have HQ := Lib.hid (fun (W : World) (hR : RegT.Grow W5.drew W) => And.intro (HX5.out.keeps ((Keeps.refl _).drew.trans (Below.keeps hR))) (And.intro (HDn.out.keeps ((Keeps.refl _).drew.trans (Below.keeps hR))) (HR5.out.keeps ((Keeps.refl _).drew.trans (Below.keeps hR)))))
    apply RegT.wp_region_T rfl 57 23 rfl (by kernel_rfl) RegT.Grow RegT.Grow.refl RegT.Grow.trans
    · apply RegT.T_pure rfl rfl rfl
      · intro W hR; clear hR; go_simp; rfl
      simp only [List.set_cons_succ, List.set_cons_zero, Nat.reduceAdd]
      apply RegT.T_pure (v := .bool true) rfl rfl rfl
      · intro W hR; clear hR; go_simp
      simp only [List.set_cons_succ, List.set_cons_zero, Nat.reduceAdd]
      apply RegT.T_pure (v := .bool true) rfl rfl rfl
      · intro W hR; clear hR; go_simp
      simp only [List.set_cons_succ, List.set_cons_zero, Nat.reduceAdd]
      apply RegT.T_pure rfl rfl rfl
      · intro W hR; clear hR; go_simp; rfl
      simp only [List.set_cons_succ, List.set_cons_zero, Nat.reduceAdd]
      apply RegT.T_pure (v := .bool true) rfl rfl rfl
      · intro W hR; clear hR; go_simp
      simp only [List.set_cons_succ, List.set_cons_zero, Nat.reduceAdd]
      apply RegT.T_pure (v := .bool true) rfl rfl rfl
      · intro W hR; clear hR; go_simp
      simp only [List.set_cons_succ, List.set_cons_zero, Nat.reduceAdd]
      apply RegT.T_pure (v := .bool true) rfl rfl rfl
      · intro W hR; clear hR; go_simp
      simp only [List.set_cons_succ, List.set_cons_zero, Nat.reduceAdd]
      apply RegT.T_pure rfl rfl rfl
      · exact fun W hR => load_cc (.tmp 5) rfl rfl (HQ.out W hR).2.1 hsz
      simp only [List.set_cons_succ, List.set_cons_zero, Nat.reduceAdd]
      apply RegT.T_pure rfl rfl rfl
      · exact fun W hR => load_cc (.tmp 1) rfl rfl (HQ.out W hR).1 hsz
      simp only [List.set_cons_succ, List.set_cons_zero, Nat.reduceAdd]
      apply RegT.T_pure (v := .bool true) rfl rfl rfl
      · intro W hR; clear hR; (exact exec_eq30 (.tmp 42) (.tmp 43) rfl rfl rfl (HEq.out W))
      simp only [List.set_cons_succ, List.set_cons_zero, Nat.reduceAdd]
      apply RegT.T_pure (v := .bool true) rfl rfl rfl
      · intro W hR; clear hR; go_simp
      simp only [List.set_cons_succ, List.set_cons_zero, Nat.reduceAdd]
      apply RegT.T_pure (v := .bool true) rfl rfl rfl
      · intro W hR; clear hR; go_simp
      simp only [List.set_cons_succ, List.set_cons_zero, Nat.reduceAdd]
      apply RegT.T_pure rfl rfl rfl
      · intro W hR; clear hR; go_simp; rfl
      simp only [List.set_cons_succ, List.set_cons_zero, Nat.reduceAdd]
      apply RegT.T_pure (v := .string ⟨F.toArray⟩) rfl rfl rfl
      · intro W hR
        have hc := run_convert_str (P := Try.prog) (HQ.out W hR).2.2 39 5 9 Try.underlying39 Try.underlying5 Try.underlying9
        clear hR
        go_simp
      simp only [List.set_cons_succ, List.set_cons_zero, Nat.reduceAdd]
      apply RegT.T_pure rfl rfl rfl
      · exact fun W hR => load_cc (.tmp 1) rfl rfl (HQ.out W hR).1 hsz
      simp only [List.set_cons_succ, List.set_cons_zero, Nat.reduceAdd]
      apply RegT.T_predC rfl rfl rfl 16 (fun v w => RdB w v F) (fun _ _ h => h) (fun v x y hR h => RdB.keeps h hR.block)
      · intro W hR hf
        have Hc := Lib.hid (H22.out W)
        clear hR hf
        go_simp
        exact RegT.OpOK_enter Hc.out (fun e w' ⟨p, k, c, he, hk, ho, hB⟩ => ⟨_, he, ho.rd, hB⟩)
      intro v15
      simp only [List.set_cons_succ, List.set_cons_zero, Nat.reduceAdd]
      apply RegT.T_const rfl rfl rfl (.string ⟨F.toArray⟩) (fun _ _ h => h)
      · intro W hR hf
        have hb := hf _ (.head _) (by kernel_rfl) (.inr rfl)
        have hc := run_convert_str (P := Try.prog) hb 39 5 9 Try.underlying39 Try.underlying5 Try.underlying9
        clear hR hf hb
        go_simp
        exact RegT.OpOK_value ⟨rfl, Below.refl _ _⟩
      simp only [List.set_cons_succ, List.set_cons_zero, Nat.reduceAdd]
      apply RegT.T_pure (v := .bool true) rfl rfl rfl
      · intro W hR; clear hR; go_simp
      simp only [List.set_cons_succ, List.set_cons_zero, Nat.reduceAdd]
      apply RegT.T_pure (v := .bool true) rfl rfl rfl
      · intro W hR; clear hR; go_simp
      simp only [List.set_cons_succ, List.set_cons_zero, Nat.reduceAdd]
      apply RegT.T_pure (v := .bool true) rfl rfl rfl
      · intro W hR; clear hR; go_simp
      simp only [List.set_cons_succ, List.set_cons_zero, Nat.reduceAdd]
      apply RegT.T_const rfl rfl rfl (.bool true) (fun _ _ h => h)
      · intro W hR hf
        have Hc := Lib.hid (known9_w W)
        clear hR hf
        go_simp
        exact RegT.OpOK_enter Hc.out (fun e w' h => ⟨_, h.1, rfl, h.2⟩)
      simp only [List.set_cons_succ, List.set_cons_zero, Nat.reduceAdd]
      apply RegT.T_pure (v := .bool true) rfl rfl rfl
      · intro W hR; clear hR; go_simp
      simp only [List.set_cons_succ, List.set_cons_zero, Nat.reduceAdd]
      apply RegT.T_pure rfl rfl rfl
      · intro W hR; clear hR; go_simp; rfl
      simp only [List.set_cons_succ, List.set_cons_zero, Nat.reduceAdd]
      refine RegT.T_end rfl (fun W7 hR hf => ?_)
      have HB7 := Lib.hid (HB5.out.trans (((Below.refl _ _).drew.trans hR).mono HB5.out.size))
      clear hR hf HQ
      go_wp2
      go_ret
      exact ⟨rfl, HB7.out⟩
    · rfl
    · kernel_rfl
  · rfl
  · kernel_rfl
theorem cmds_w (x : Cm) (w : World) (hok : x.ok) : Calls Try.prog 5 #[.agg x.cells] w fun e w' => e = .returned (.bool true) ∧ Below w.heap.size w w' := by
  cases hm : x.mayB with
  | true => exact cmds_yes_w x hok hm w
  | false => exact cmds_no_w x hok hm w
end Go.Proofs.Ytoflehlkacofjaa
