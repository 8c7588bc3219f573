/- The law of multiples: the walk. -/
import Derived.Test.YtpbdnndpdidagaaS18
import Derived.Deep.Cut
import Derived.Test.YtpbdnndpdidagaaReg2
namespace Go.Proofs.Ytpbdnndpdidagaa
open Go.ChangeShapes Go.WideShapes Go.ChangeAt Go.RowKit
set_option linter.unusedVariables false

set_option maxRecDepth 100000 in
set_option maxHeartbeats 3200000 in
theorem multiples_law_w (s : Sp) (a b : Int) (w : World) (h : s.ok) : Calls Try.prog 12 #[.agg s.cells, .int .i64 a, .int .i64 b] w fun r w' => r = .returned (.bool true) ∧ Below w.heap.size w w' := by
  have HC := Lib.hid (And.intro (SpAt.new w s) ((Below.refl w.heap.size w).alloc (Nat.le_refl _) (.cells s.cells 66)))
  have HP1 := Lib.hid (fun W => isprice_w s a W h)
  have HP2 := Lib.hid (fun W => isprice_w s b W h)
  have HP3 := Lib.hid (fun W => isprice_w s (a + b) W h)
  have HP4 := Lib.hid (fun W => isprice_w s (a - b) W h)
  have HQ1 := Lib.hid (fun W => isqty_w s a W h)
  have HQ2 := Lib.hid (fun W => isqty_w s b W h)
  have HQ3 := Lib.hid (fun W => isqty_w s (a + b) W h)
  have HQ4 := Lib.hid (fun W => isqty_w s (a - b) W h)
  have hpa := s.price_add a b
  have hqa := s.qty_add a b
  clear h
  generalize s.isPrice a = pa at *
  generalize s.isPrice b = pb at *
  generalize s.isPrice (a + b) = ps at *
  generalize s.isPrice (a - b) = pd at *
  generalize s.isQty a = qa at *
  generalize s.isQty b = qb at *
  generalize s.isQty (a + b) = qs at *
  generalize s.isQty (a - b) = qd at *
  by_cases h1 : a < 1
  · clear hpa hqa
    go_enter Try.func12, Try.ntmps12
    go_wp2_with (first
        | (refine wpList_load_sp rfl (.tmp 3) rfl rfl HC.out.1 ?_)
        | (go_at_call 53; (first | with_reducible refine (HP1.out _).mono ?_ | with_reducible refine (HP2.out _).mono ?_ | with_reducible refine (HP3.out _).mono ?_ | with_reducible refine (HP4.out _).mono ?_); rintro r w2 ⟨rfl, hB⟩; have HC := Lib.hid (And.intro (HC.out.1.below hB) (HC.out.2.trans (hB.mono HC.out.2.size))); clear hB)
        | (go_at_call 54; (first | with_reducible refine (HQ1.out _).mono ?_ | with_reducible refine (HQ2.out _).mono ?_ | with_reducible refine (HQ3.out _).mono ?_ | with_reducible refine (HQ4.out _).mono ?_); rintro r w2 ⟨rfl, hB⟩; have HC := Lib.hid (And.intro (HC.out.1.below hB) (HC.out.2.trans (hB.mono HC.out.2.size))); clear hB)
        | (go_at_call 46; with_reducible refine (known4_w _).mono ?_; rintro r w3 ⟨rfl, hB⟩; have HC := Lib.hid (And.intro (HC.out.1.below hB) (HC.out.2.trans (hB.mono HC.out.2.size))); clear hB))
    go_ret
    exact ⟨rfl, HC.out.2⟩
  by_cases h2 : 10000000 < a
  · clear hpa hqa
    go_enter Try.func12, Try.ntmps12
    go_wp2_with (first
        | (refine wpList_load_sp rfl (.tmp 3) rfl rfl HC.out.1 ?_)
        | (go_at_call 53; (first | with_reducible refine (HP1.out _).mono ?_ | with_reducible refine (HP2.out _).mono ?_ | with_reducible refine (HP3.out _).mono ?_ | with_reducible refine (HP4.out _).mono ?_); rintro r w2 ⟨rfl, hB⟩; have HC := Lib.hid (And.intro (HC.out.1.below hB) (HC.out.2.trans (hB.mono HC.out.2.size))); clear hB)
        | (go_at_call 54; (first | with_reducible refine (HQ1.out _).mono ?_ | with_reducible refine (HQ2.out _).mono ?_ | with_reducible refine (HQ3.out _).mono ?_ | with_reducible refine (HQ4.out _).mono ?_); rintro r w2 ⟨rfl, hB⟩; have HC := Lib.hid (And.intro (HC.out.1.below hB) (HC.out.2.trans (hB.mono HC.out.2.size))); clear hB)
        | (go_at_call 46; with_reducible refine (known4_w _).mono ?_; rintro r w3 ⟨rfl, hB⟩; have HC := Lib.hid (And.intro (HC.out.1.below hB) (HC.out.2.trans (hB.mono HC.out.2.size))); clear hB))
    go_ret
    exact ⟨rfl, HC.out.2⟩
  by_cases h3 : b < 1
  · clear hpa hqa
    go_enter Try.func12, Try.ntmps12
    go_wp2_with (first
        | (refine wpList_load_sp rfl (.tmp 3) rfl rfl HC.out.1 ?_)
        | (go_at_call 53; (first | with_reducible refine (HP1.out _).mono ?_ | with_reducible refine (HP2.out _).mono ?_ | with_reducible refine (HP3.out _).mono ?_ | with_reducible refine (HP4.out _).mono ?_); rintro r w2 ⟨rfl, hB⟩; have HC := Lib.hid (And.intro (HC.out.1.below hB) (HC.out.2.trans (hB.mono HC.out.2.size))); clear hB)
        | (go_at_call 54; (first | with_reducible refine (HQ1.out _).mono ?_ | with_reducible refine (HQ2.out _).mono ?_ | with_reducible refine (HQ3.out _).mono ?_ | with_reducible refine (HQ4.out _).mono ?_); rintro r w2 ⟨rfl, hB⟩; have HC := Lib.hid (And.intro (HC.out.1.below hB) (HC.out.2.trans (hB.mono HC.out.2.size))); clear hB)
        | (go_at_call 46; with_reducible refine (known4_w _).mono ?_; rintro r w3 ⟨rfl, hB⟩; have HC := Lib.hid (And.intro (HC.out.1.below hB) (HC.out.2.trans (hB.mono HC.out.2.size))); clear hB))
    go_ret
    exact ⟨rfl, HC.out.2⟩
  by_cases h4 : 10000000 < b
  · clear hpa hqa
    go_enter Try.func12, Try.ntmps12
    go_wp2_with (first
        | (refine wpList_load_sp rfl (.tmp 3) rfl rfl HC.out.1 ?_)
        | (go_at_call 53; (first | with_reducible refine (HP1.out _).mono ?_ | with_reducible refine (HP2.out _).mono ?_ | with_reducible refine (HP3.out _).mono ?_ | with_reducible refine (HP4.out _).mono ?_); rintro r w2 ⟨rfl, hB⟩; have HC := Lib.hid (And.intro (HC.out.1.below hB) (HC.out.2.trans (hB.mono HC.out.2.size))); clear hB)
        | (go_at_call 54; (first | with_reducible refine (HQ1.out _).mono ?_ | with_reducible refine (HQ2.out _).mono ?_ | with_reducible refine (HQ3.out _).mono ?_ | with_reducible refine (HQ4.out _).mono ?_); rintro r w2 ⟨rfl, hB⟩; have HC := Lib.hid (And.intro (HC.out.1.below hB) (HC.out.2.trans (hB.mono HC.out.2.size))); clear hB)
        | (go_at_call 46; with_reducible refine (known4_w _).mono ?_; rintro r w3 ⟨rfl, hB⟩; have HC := Lib.hid (And.intro (HC.out.1.below hB) (HC.out.2.trans (hB.mono HC.out.2.size))); clear hB))
    go_ret
    exact ⟨rfl, HC.out.2⟩
  have g1 : 1 ≤ a := by omega
  have g2 : a ≤ 10000000 := by omega
  have g3 : 1 ≤ b := by omega
  have g4 : b ≤ 10000000 := by omega
  clear h1 h2 h3 h4
  have hz1 : IntKind.i64.wrap (a + b) = a + b := IntWalk.i64_in _ (by omega)
  have hz2 : IntKind.i64.wrap (a - b) = a - b := IntWalk.i64_in _ (by omega)
  have e1 : decide (a < 1) = false := by simp; omega
  have e2 : decide (10000000 < a) = false := by simp; omega
  have e3 : decide (b < 1) = false := by simp; omega
  have e4 : decide (10000000 < b) = false := by simp; omega
  clear g1 g2 g3 g4
  have hp : pa = false ∨ (pa = true ∧ pb = false) ∨ (pa = true ∧ pb = true) := by cases pa <;> cases pb <;> simp
  have hq : qa = false ∨ (qa = true ∧ qb = false) ∨ (qa = true ∧ qb = true) := by cases qa <;> cases qb <;> simp
  rcases hp with rfl | ⟨rfl, rfl⟩ | ⟨rfl, rfl⟩
  · rcases hq with rfl | ⟨rfl, rfl⟩ | ⟨rfl, rfl⟩
    · clear hpa hqa
      go_enter Try.func12, Try.ntmps12
      go_upto_region 3 with fail
      apply RegT.wp_region_F RegT.Grow RegT.Grow.refl RegT.Grow.trans
      · apply RegT.T_pure (v := .agg s.cells) rfl rfl rfl
        · exact fun W hR => load_exec (.tmp 3) rfl rfl (HC.out.1.below hR)
        simp only [List.set_cons_succ, List.set_cons_zero, Nat.reduceAdd]
        iterate 1
          apply RegT.T_pure rfl rfl rfl
          · intro W hR; go_simp; rfl
          simp only [List.set_cons_succ, List.set_cons_zero, Nat.reduceAdd]
        apply RegT.T_const rfl rfl rfl (.bool false) (fun _ _ h => h)
        · intro W hR hf
          have Hc := Lib.hid (HP1.out W)
          clear hR hf
          go_simp
          exact RegT.OpOK_enter Hc.out (fun e w' h => ⟨_, h.1, rfl, h.2⟩)
        simp only [List.set_cons_succ, List.set_cons_zero, Nat.reduceAdd]
        iterate 1
          apply RegT.T_pure rfl rfl rfl
          · intro W hR; go_simp; rfl
          simp only [List.set_cons_succ, List.set_cons_zero, Nat.reduceAdd]
        iterate 3
          apply RegT.T_skip rfl rfl rfl
          simp only [List.set_cons_succ, List.set_cons_zero, Nat.reduceAdd]
        apply RegT.T_pure (v := .bool false) rfl rfl rfl
        · intro W hR; clear hR; go_simp
        simp only [List.set_cons_succ, List.set_cons_zero, Nat.reduceAdd]
        iterate 1
          apply RegT.T_pure rfl rfl rfl
          · intro W hR; go_simp; rfl
          simp only [List.set_cons_succ, List.set_cons_zero, Nat.reduceAdd]
        iterate 21
          apply RegT.T_skip rfl rfl rfl
          simp only [List.set_cons_succ, List.set_cons_zero, Nat.reduceAdd]
        apply RegT.T_pure (v := .bool false) rfl rfl rfl
        · intro W hR; clear hR; go_simp
        simp only [List.set_cons_succ, List.set_cons_zero, Nat.reduceAdd]
        refine RegT.T_tail (fun W hR hf => ?_)
        have HC := Lib.hid (And.intro (HC.out.1.below hR) (HC.out.2.trans (hR.mono HC.out.2.size)))
        clear hR hf
        simp only [List.drop_succ_cons, List.drop_zero]
        go_upto_region 5 with fail
        apply RegT.wp_region_F RegT.Grow RegT.Grow.refl RegT.Grow.trans
        · apply RegT.T_pure (v := .agg s.cells) rfl rfl rfl
          · exact fun W hR => load_exec (.tmp 3) rfl rfl (HC.out.1.below hR)
          simp only [List.set_cons_succ, List.set_cons_zero, Nat.reduceAdd]
          iterate 1
            apply RegT.T_pure rfl rfl rfl
            · intro W hR; go_simp; rfl
            simp only [List.set_cons_succ, List.set_cons_zero, Nat.reduceAdd]
          apply RegT.T_const rfl rfl rfl (.bool false) (fun _ _ h => h)
          · intro W hR hf
            have Hc := Lib.hid (HQ1.out W)
            clear hR hf
            go_simp
            exact RegT.OpOK_enter Hc.out (fun e w' h => ⟨_, h.1, rfl, h.2⟩)
          simp only [List.set_cons_succ, List.set_cons_zero, Nat.reduceAdd]
          iterate 1
            apply RegT.T_pure rfl rfl rfl
            · intro W hR; go_simp; rfl
            simp only [List.set_cons_succ, List.set_cons_zero, Nat.reduceAdd]
          iterate 3
            apply RegT.T_skip rfl rfl rfl
            simp only [List.set_cons_succ, List.set_cons_zero, Nat.reduceAdd]
          apply RegT.T_pure (v := .bool false) rfl rfl rfl
          · intro W hR; clear hR; go_simp
          simp only [List.set_cons_succ, List.set_cons_zero, Nat.reduceAdd]
          iterate 1
            apply RegT.T_pure rfl rfl rfl
            · intro W hR; go_simp; rfl
            simp only [List.set_cons_succ, List.set_cons_zero, Nat.reduceAdd]
          iterate 21
            apply RegT.T_skip rfl rfl rfl
            simp only [List.set_cons_succ, List.set_cons_zero, Nat.reduceAdd]
          apply RegT.T_pure (v := .bool false) rfl rfl rfl
          · intro W hR; clear hR; go_simp
          simp only [List.set_cons_succ, List.set_cons_zero, Nat.reduceAdd]
          refine RegT.T_tail (fun W hR hf => ?_)
          have HC := Lib.hid (And.intro (HC.out.1.below hR) (HC.out.2.trans (hR.mono HC.out.2.size)))
          clear hR hf
          simp only [List.drop_succ_cons, List.drop_zero]
          go_wp2_with (go_at_call 46; with_reducible refine (known4_w _).mono ?_; rintro r w3 ⟨rfl, hB⟩; have HC := Lib.hid (And.intro (HC.out.1.below hB) (HC.out.2.trans (hB.mono HC.out.2.size))); clear hB)
          go_ret
          exact ⟨rfl, HC.out.2⟩
        · rfl
      · rfl
    · clear hpa hqa
      go_enter Try.func12, Try.ntmps12
      go_upto_region 3 with fail
      apply RegT.wp_region_F RegT.Grow RegT.Grow.refl RegT.Grow.trans
      · apply RegT.T_pure (v := .agg s.cells) rfl rfl rfl
        · exact fun W hR => load_exec (.tmp 3) rfl rfl (HC.out.1.below hR)
        simp only [List.set_cons_succ, List.set_cons_zero, Nat.reduceAdd]
        iterate 1
          apply RegT.T_pure rfl rfl rfl
          · intro W hR; go_simp; rfl
          simp only [List.set_cons_succ, List.set_cons_zero, Nat.reduceAdd]
        apply RegT.T_const rfl rfl rfl (.bool false) (fun _ _ h => h)
        · intro W hR hf
          have Hc := Lib.hid (HP1.out W)
          clear hR hf
          go_simp
          exact RegT.OpOK_enter Hc.out (fun e w' h => ⟨_, h.1, rfl, h.2⟩)
        simp only [List.set_cons_succ, List.set_cons_zero, Nat.reduceAdd]
        iterate 1
          apply RegT.T_pure rfl rfl rfl
          · intro W hR; go_simp; rfl
          simp only [List.set_cons_succ, List.set_cons_zero, Nat.reduceAdd]
        iterate 3
          apply RegT.T_skip rfl rfl rfl
          simp only [List.set_cons_succ, List.set_cons_zero, Nat.reduceAdd]
        apply RegT.T_pure (v := .bool false) rfl rfl rfl
        · intro W hR; clear hR; go_simp
        simp only [List.set_cons_succ, List.set_cons_zero, Nat.reduceAdd]
        iterate 1
          apply RegT.T_pure rfl rfl rfl
          · intro W hR; go_simp; rfl
          simp only [List.set_cons_succ, List.set_cons_zero, Nat.reduceAdd]
        iterate 21
          apply RegT.T_skip rfl rfl rfl
          simp only [List.set_cons_succ, List.set_cons_zero, Nat.reduceAdd]
        apply RegT.T_pure (v := .bool false) rfl rfl rfl
        · intro W hR; clear hR; go_simp
        simp only [List.set_cons_succ, List.set_cons_zero, Nat.reduceAdd]
        refine RegT.T_tail (fun W hR hf => ?_)
        have HC := Lib.hid (And.intro (HC.out.1.below hR) (HC.out.2.trans (hR.mono HC.out.2.size)))
        clear hR hf
        simp only [List.drop_succ_cons, List.drop_zero]
        go_upto_region 5 with fail
        apply RegT.wp_region_F RegT.Grow RegT.Grow.refl RegT.Grow.trans
        · apply RegT.T_pure (v := .agg s.cells) rfl rfl rfl
          · exact fun W hR => load_exec (.tmp 3) rfl rfl (HC.out.1.below hR)
          simp only [List.set_cons_succ, List.set_cons_zero, Nat.reduceAdd]
          iterate 1
            apply RegT.T_pure rfl rfl rfl
            · intro W hR; go_simp; rfl
            simp only [List.set_cons_succ, List.set_cons_zero, Nat.reduceAdd]
          apply RegT.T_const rfl rfl rfl (.bool true) (fun _ _ h => h)
          · intro W hR hf
            have Hc := Lib.hid (HQ1.out W)
            clear hR hf
            go_simp
            exact RegT.OpOK_enter Hc.out (fun e w' h => ⟨_, h.1, rfl, h.2⟩)
          simp only [List.set_cons_succ, List.set_cons_zero, Nat.reduceAdd]
          iterate 1
            apply RegT.T_pure rfl rfl rfl
            · intro W hR; go_simp; rfl
            simp only [List.set_cons_succ, List.set_cons_zero, Nat.reduceAdd]
          apply RegT.T_pure (v := .agg s.cells) rfl rfl rfl
          · exact fun W hR => load_exec (.tmp 3) rfl rfl (HC.out.1.below hR)
          simp only [List.set_cons_succ, List.set_cons_zero, Nat.reduceAdd]
          iterate 1
            apply RegT.T_pure rfl rfl rfl
            · intro W hR; go_simp; rfl
            simp only [List.set_cons_succ, List.set_cons_zero, Nat.reduceAdd]
          apply RegT.T_const rfl rfl rfl (.bool false) (fun _ _ h => h)
          · intro W hR hf
            have Hc := Lib.hid (HQ2.out W)
            clear hR hf
            go_simp
            exact RegT.OpOK_enter Hc.out (fun e w' h => ⟨_, h.1, rfl, h.2⟩)
          simp only [List.set_cons_succ, List.set_cons_zero, Nat.reduceAdd]
          apply RegT.T_pure (v := .bool false) rfl rfl rfl
          · intro W hR; clear hR; go_simp
          simp only [List.set_cons_succ, List.set_cons_zero, Nat.reduceAdd]
          iterate 1
            apply RegT.T_pure rfl rfl rfl
            · intro W hR; go_simp; rfl
            simp only [List.set_cons_succ, List.set_cons_zero, Nat.reduceAdd]
          iterate 21
            apply RegT.T_skip rfl rfl rfl
            simp only [List.set_cons_succ, List.set_cons_zero, Nat.reduceAdd]
          apply RegT.T_pure (v := .bool false) rfl rfl rfl
          · intro W hR; clear hR; go_simp
          simp only [List.set_cons_succ, List.set_cons_zero, Nat.reduceAdd]
          refine RegT.T_tail (fun W hR hf => ?_)
          have HC := Lib.hid (And.intro (HC.out.1.below hR) (HC.out.2.trans (hR.mono HC.out.2.size)))
          clear hR hf
          simp only [List.drop_succ_cons, List.drop_zero]
          go_wp2_with (go_at_call 46; with_reducible refine (known4_w _).mono ?_; rintro r w3 ⟨rfl, hB⟩; have HC := Lib.hid (And.intro (HC.out.1.below hB) (HC.out.2.trans (hB.mono HC.out.2.size))); clear hB)
          go_ret
          exact ⟨rfl, HC.out.2⟩
        · rfl
      · rfl
    · obtain ⟨rfl, rfl⟩ := hqa rfl rfl
      clear hpa hqa
      go_enter Try.func12, Try.ntmps12
      go_upto_region 3 with fail
      apply RegT.wp_region_F RegT.Grow RegT.Grow.refl RegT.Grow.trans
      · apply RegT.T_pure (v := .agg s.cells) rfl rfl rfl
        · exact fun W hR => load_exec (.tmp 3) rfl rfl (HC.out.1.below hR)
        simp only [List.set_cons_succ, List.set_cons_zero, Nat.reduceAdd]
        iterate 1
          apply RegT.T_pure rfl rfl rfl
          · intro W hR; go_simp; rfl
          simp only [List.set_cons_succ, List.set_cons_zero, Nat.reduceAdd]
        apply RegT.T_const rfl rfl rfl (.bool false) (fun _ _ h => h)
        · intro W hR hf
          have Hc := Lib.hid (HP1.out W)
          clear hR hf
          go_simp
          exact RegT.OpOK_enter Hc.out (fun e w' h => ⟨_, h.1, rfl, h.2⟩)
        simp only [List.set_cons_succ, List.set_cons_zero, Nat.reduceAdd]
        iterate 1
          apply RegT.T_pure rfl rfl rfl
          · intro W hR; go_simp; rfl
          simp only [List.set_cons_succ, List.set_cons_zero, Nat.reduceAdd]
        iterate 3
          apply RegT.T_skip rfl rfl rfl
          simp only [List.set_cons_succ, List.set_cons_zero, Nat.reduceAdd]
        apply RegT.T_pure (v := .bool false) rfl rfl rfl
        · intro W hR; clear hR; go_simp
        simp only [List.set_cons_succ, List.set_cons_zero, Nat.reduceAdd]
        iterate 1
          apply RegT.T_pure rfl rfl rfl
          · intro W hR; go_simp; rfl
          simp only [List.set_cons_succ, List.set_cons_zero, Nat.reduceAdd]
        iterate 21
          apply RegT.T_skip rfl rfl rfl
          simp only [List.set_cons_succ, List.set_cons_zero, Nat.reduceAdd]
        apply RegT.T_pure (v := .bool false) rfl rfl rfl
        · intro W hR; clear hR; go_simp
        simp only [List.set_cons_succ, List.set_cons_zero, Nat.reduceAdd]
        refine RegT.T_tail (fun W hR hf => ?_)
        have HC := Lib.hid (And.intro (HC.out.1.below hR) (HC.out.2.trans (hR.mono HC.out.2.size)))
        clear hR hf
        simp only [List.drop_succ_cons, List.drop_zero]
        go_upto_region 5 with fail
        apply RegT.wp_region_F RegT.Grow RegT.Grow.refl RegT.Grow.trans
        · apply RegT.T_pure (v := .agg s.cells) rfl rfl rfl
          · exact fun W hR => load_exec (.tmp 3) rfl rfl (HC.out.1.below hR)
          simp only [List.set_cons_succ, List.set_cons_zero, Nat.reduceAdd]
          iterate 1
            apply RegT.T_pure rfl rfl rfl
            · intro W hR; go_simp; rfl
            simp only [List.set_cons_succ, List.set_cons_zero, Nat.reduceAdd]
          apply RegT.T_const rfl rfl rfl (.bool true) (fun _ _ h => h)
          · intro W hR hf
            have Hc := Lib.hid (HQ1.out W)
            clear hR hf
            go_simp
            exact RegT.OpOK_enter Hc.out (fun e w' h => ⟨_, h.1, rfl, h.2⟩)
          simp only [List.set_cons_succ, List.set_cons_zero, Nat.reduceAdd]
          iterate 1
            apply RegT.T_pure rfl rfl rfl
            · intro W hR; go_simp; rfl
            simp only [List.set_cons_succ, List.set_cons_zero, Nat.reduceAdd]
          apply RegT.T_pure (v := .agg s.cells) rfl rfl rfl
          · exact fun W hR => load_exec (.tmp 3) rfl rfl (HC.out.1.below hR)
          simp only [List.set_cons_succ, List.set_cons_zero, Nat.reduceAdd]
          iterate 1
            apply RegT.T_pure rfl rfl rfl
            · intro W hR; go_simp; rfl
            simp only [List.set_cons_succ, List.set_cons_zero, Nat.reduceAdd]
          apply RegT.T_const rfl rfl rfl (.bool true) (fun _ _ h => h)
          · intro W hR hf
            have Hc := Lib.hid (HQ2.out W)
            clear hR hf
            go_simp
            exact RegT.OpOK_enter Hc.out (fun e w' h => ⟨_, h.1, rfl, h.2⟩)
          simp only [List.set_cons_succ, List.set_cons_zero, Nat.reduceAdd]
          apply RegT.T_pure (v := .bool true) rfl rfl rfl
          · intro W hR; clear hR; go_simp
          simp only [List.set_cons_succ, List.set_cons_zero, Nat.reduceAdd]
          iterate 1
            apply RegT.T_pure rfl rfl rfl
            · intro W hR; go_simp; rfl
            simp only [List.set_cons_succ, List.set_cons_zero, Nat.reduceAdd]
          apply RegT.T_pure (v := .agg s.cells) rfl rfl rfl
          · exact fun W hR => load_exec (.tmp 3) rfl rfl (HC.out.1.below hR)
          simp only [List.set_cons_succ, List.set_cons_zero, Nat.reduceAdd]
          iterate 2
            apply RegT.T_pure rfl rfl rfl
            · intro W hR; go_simp; rfl
            simp only [List.set_cons_succ, List.set_cons_zero, Nat.reduceAdd]
          apply RegT.T_pure (v := .int .i64 (a + b)) rfl rfl rfl
          · intro W hR; clear hR; go_simp
          simp only [List.set_cons_succ, List.set_cons_zero, Nat.reduceAdd]
          apply RegT.T_const rfl rfl rfl (.bool (decide (a + b ≤ 1000000))) (fun _ _ h => h)
          · intro W hR hf
            have Hc := Lib.hid (HQ3.out W)
            clear hR hf
            go_simp
            exact RegT.OpOK_enter Hc.out (fun e w' h => ⟨_, h.1, rfl, h.2⟩)
          simp only [List.set_cons_succ, List.set_cons_zero, Nat.reduceAdd]
          iterate 2
            apply RegT.T_pure rfl rfl rfl
            · intro W hR; go_simp; rfl
            simp only [List.set_cons_succ, List.set_cons_zero, Nat.reduceAdd]
          apply RegT.T_pure (v := .int .i64 (a + b)) rfl rfl rfl
          · intro W hR; clear hR; go_simp
          simp only [List.set_cons_succ, List.set_cons_zero, Nat.reduceAdd]
          apply RegT.T_pure (v := .bool (decide (a + b ≤ 1000000))) rfl rfl rfl
          · intro W hR; clear hR; go_simp
          simp only [List.set_cons_succ, List.set_cons_zero, Nat.reduceAdd]
          apply RegT.T_pure (v := .bool false) rfl rfl rfl
          · intro W hR; clear hR; go_simp
          simp only [List.set_cons_succ, List.set_cons_zero, Nat.reduceAdd]
          iterate 1
            apply RegT.T_pure rfl rfl rfl
            · intro W hR; go_simp; rfl
            simp only [List.set_cons_succ, List.set_cons_zero, Nat.reduceAdd]
          apply RegT.T_pure (v := .agg s.cells) rfl rfl rfl
          · exact fun W hR => load_exec (.tmp 3) rfl rfl (HC.out.1.below hR)
          simp only [List.set_cons_succ, List.set_cons_zero, Nat.reduceAdd]
          iterate 2
            apply RegT.T_pure rfl rfl rfl
            · intro W hR; go_simp; rfl
            simp only [List.set_cons_succ, List.set_cons_zero, Nat.reduceAdd]
          apply RegT.T_pure (v := .int .i64 (a - b)) rfl rfl rfl
          · intro W hR; clear hR; go_simp
          simp only [List.set_cons_succ, List.set_cons_zero, Nat.reduceAdd]
          apply RegT.T_const rfl rfl rfl (.bool (decide (b < a))) (fun _ _ h => h)
          · intro W hR hf
            have Hc := Lib.hid (HQ4.out W)
            clear hR hf
            go_simp
            exact RegT.OpOK_enter Hc.out (fun e w' h => ⟨_, h.1, rfl, h.2⟩)
          simp only [List.set_cons_succ, List.set_cons_zero, Nat.reduceAdd]
          iterate 2
            apply RegT.T_pure rfl rfl rfl
            · intro W hR; go_simp; rfl
            simp only [List.set_cons_succ, List.set_cons_zero, Nat.reduceAdd]
          apply RegT.T_pure (v := .bool (decide (b < a))) rfl rfl rfl
          · intro W hR; clear hR; go_simp
          simp only [List.set_cons_succ, List.set_cons_zero, Nat.reduceAdd]
          apply RegT.T_pure (v := .bool false) rfl rfl rfl
          · intro W hR; clear hR; go_simp
          simp only [List.set_cons_succ, List.set_cons_zero, Nat.reduceAdd]
          apply RegT.T_pure (v := .bool false) rfl rfl rfl
          · intro W hR; clear hR; go_simp
          simp only [List.set_cons_succ, List.set_cons_zero, Nat.reduceAdd]
          apply RegT.T_pure (v := .bool false) rfl rfl rfl
          · intro W hR; clear hR; go_simp
          simp only [List.set_cons_succ, List.set_cons_zero, Nat.reduceAdd]
          refine RegT.T_tail (fun W hR hf => ?_)
          have HC := Lib.hid (And.intro (HC.out.1.below hR) (HC.out.2.trans (hR.mono HC.out.2.size)))
          clear hR hf
          simp only [List.drop_succ_cons, List.drop_zero]
          go_wp2_with (go_at_call 46; with_reducible refine (known4_w _).mono ?_; rintro r w3 ⟨rfl, hB⟩; have HC := Lib.hid (And.intro (HC.out.1.below hB) (HC.out.2.trans (hB.mono HC.out.2.size))); clear hB)
          go_ret
          exact ⟨rfl, HC.out.2⟩
        · rfl
      · rfl
  · rcases hq with rfl | ⟨rfl, rfl⟩ | ⟨rfl, rfl⟩
    · clear hpa hqa
      go_enter Try.func12, Try.ntmps12
      go_upto_region 3 with fail
      apply RegT.wp_region_F RegT.Grow RegT.Grow.refl RegT.Grow.trans
      · apply RegT.T_pure (v := .agg s.cells) rfl rfl rfl
        · exact fun W hR => load_exec (.tmp 3) rfl rfl (HC.out.1.below hR)
        simp only [List.set_cons_succ, List.set_cons_zero, Nat.reduceAdd]
        iterate 1
          apply RegT.T_pure rfl rfl rfl
          · intro W hR; go_simp; rfl
          simp only [List.set_cons_succ, List.set_cons_zero, Nat.reduceAdd]
        apply RegT.T_const rfl rfl rfl (.bool true) (fun _ _ h => h)
        · intro W hR hf
          have Hc := Lib.hid (HP1.out W)
          clear hR hf
          go_simp
          exact RegT.OpOK_enter Hc.out (fun e w' h => ⟨_, h.1, rfl, h.2⟩)
        simp only [List.set_cons_succ, List.set_cons_zero, Nat.reduceAdd]
        iterate 1
          apply RegT.T_pure rfl rfl rfl
          · intro W hR; go_simp; rfl
          simp only [List.set_cons_succ, List.set_cons_zero, Nat.reduceAdd]
        apply RegT.T_pure (v := .agg s.cells) rfl rfl rfl
        · exact fun W hR => load_exec (.tmp 3) rfl rfl (HC.out.1.below hR)
        simp only [List.set_cons_succ, List.set_cons_zero, Nat.reduceAdd]
        iterate 1
          apply RegT.T_pure rfl rfl rfl
          · intro W hR; go_simp; rfl
          simp only [List.set_cons_succ, List.set_cons_zero, Nat.reduceAdd]
        apply RegT.T_const rfl rfl rfl (.bool false) (fun _ _ h => h)
        · intro W hR hf
          have Hc := Lib.hid (HP2.out W)
          clear hR hf
          go_simp
          exact RegT.OpOK_enter Hc.out (fun e w' h => ⟨_, h.1, rfl, h.2⟩)
        simp only [List.set_cons_succ, List.set_cons_zero, Nat.reduceAdd]
        apply RegT.T_pure (v := .bool false) rfl rfl rfl
        · intro W hR; clear hR; go_simp
        simp only [List.set_cons_succ, List.set_cons_zero, Nat.reduceAdd]
        iterate 1
          apply RegT.T_pure rfl rfl rfl
          · intro W hR; go_simp; rfl
          simp only [List.set_cons_succ, List.set_cons_zero, Nat.reduceAdd]
        iterate 21
          apply RegT.T_skip rfl rfl rfl
          simp only [List.set_cons_succ, List.set_cons_zero, Nat.reduceAdd]
        apply RegT.T_pure (v := .bool false) rfl rfl rfl
        · intro W hR; clear hR; go_simp
        simp only [List.set_cons_succ, List.set_cons_zero, Nat.reduceAdd]
        refine RegT.T_tail (fun W hR hf => ?_)
        have HC := Lib.hid (And.intro (HC.out.1.below hR) (HC.out.2.trans (hR.mono HC.out.2.size)))
        clear hR hf
        simp only [List.drop_succ_cons, List.drop_zero]
        go_upto_region 5 with fail
        apply RegT.wp_region_F RegT.Grow RegT.Grow.refl RegT.Grow.trans
        · apply RegT.T_pure (v := .agg s.cells) rfl rfl rfl
          · exact fun W hR => load_exec (.tmp 3) rfl rfl (HC.out.1.below hR)
          simp only [List.set_cons_succ, List.set_cons_zero, Nat.reduceAdd]
          iterate 1
            apply RegT.T_pure rfl rfl rfl
            · intro W hR; go_simp; rfl
            simp only [List.set_cons_succ, List.set_cons_zero, Nat.reduceAdd]
          apply RegT.T_const rfl rfl rfl (.bool false) (fun _ _ h => h)
          · intro W hR hf
            have Hc := Lib.hid (HQ1.out W)
            clear hR hf
            go_simp
            exact RegT.OpOK_enter Hc.out (fun e w' h => ⟨_, h.1, rfl, h.2⟩)
          simp only [List.set_cons_succ, List.set_cons_zero, Nat.reduceAdd]
          iterate 1
            apply RegT.T_pure rfl rfl rfl
            · intro W hR; go_simp; rfl
            simp only [List.set_cons_succ, List.set_cons_zero, Nat.reduceAdd]
          iterate 3
            apply RegT.T_skip rfl rfl rfl
            simp only [List.set_cons_succ, List.set_cons_zero, Nat.reduceAdd]
          apply RegT.T_pure (v := .bool false) rfl rfl rfl
          · intro W hR; clear hR; go_simp
          simp only [List.set_cons_succ, List.set_cons_zero, Nat.reduceAdd]
          iterate 1
            apply RegT.T_pure rfl rfl rfl
            · intro W hR; go_simp; rfl
            simp only [List.set_cons_succ, List.set_cons_zero, Nat.reduceAdd]
          iterate 21
            apply RegT.T_skip rfl rfl rfl
            simp only [List.set_cons_succ, List.set_cons_zero, Nat.reduceAdd]
          apply RegT.T_pure (v := .bool false) rfl rfl rfl
          · intro W hR; clear hR; go_simp
          simp only [List.set_cons_succ, List.set_cons_zero, Nat.reduceAdd]
          refine RegT.T_tail (fun W hR hf => ?_)
          have HC := Lib.hid (And.intro (HC.out.1.below hR) (HC.out.2.trans (hR.mono HC.out.2.size)))
          clear hR hf
          simp only [List.drop_succ_cons, List.drop_zero]
          go_wp2_with (go_at_call 46; with_reducible refine (known4_w _).mono ?_; rintro r w3 ⟨rfl, hB⟩; have HC := Lib.hid (And.intro (HC.out.1.below hB) (HC.out.2.trans (hB.mono HC.out.2.size))); clear hB)
          go_ret
          exact ⟨rfl, HC.out.2⟩
        · rfl
      · rfl
    · clear hpa hqa
      go_enter Try.func12, Try.ntmps12
      go_upto_region 3 with fail
      apply RegT.wp_region_F RegT.Grow RegT.Grow.refl RegT.Grow.trans
      · apply RegT.T_pure (v := .agg s.cells) rfl rfl rfl
        · exact fun W hR => load_exec (.tmp 3) rfl rfl (HC.out.1.below hR)
        simp only [List.set_cons_succ, List.set_cons_zero, Nat.reduceAdd]
        iterate 1
          apply RegT.T_pure rfl rfl rfl
          · intro W hR; go_simp; rfl
          simp only [List.set_cons_succ, List.set_cons_zero, Nat.reduceAdd]
        apply RegT.T_const rfl rfl rfl (.bool true) (fun _ _ h => h)
        · intro W hR hf
          have Hc := Lib.hid (HP1.out W)
          clear hR hf
          go_simp
          exact RegT.OpOK_enter Hc.out (fun e w' h => ⟨_, h.1, rfl, h.2⟩)
        simp only [List.set_cons_succ, List.set_cons_zero, Nat.reduceAdd]
        iterate 1
          apply RegT.T_pure rfl rfl rfl
          · intro W hR; go_simp; rfl
          simp only [List.set_cons_succ, List.set_cons_zero, Nat.reduceAdd]
        apply RegT.T_pure (v := .agg s.cells) rfl rfl rfl
        · exact fun W hR => load_exec (.tmp 3) rfl rfl (HC.out.1.below hR)
        simp only [List.set_cons_succ, List.set_cons_zero, Nat.reduceAdd]
        iterate 1
          apply RegT.T_pure rfl rfl rfl
          · intro W hR; go_simp; rfl
          simp only [List.set_cons_succ, List.set_cons_zero, Nat.reduceAdd]
        apply RegT.T_const rfl rfl rfl (.bool false) (fun _ _ h => h)
        · intro W hR hf
          have Hc := Lib.hid (HP2.out W)
          clear hR hf
          go_simp
          exact RegT.OpOK_enter Hc.out (fun e w' h => ⟨_, h.1, rfl, h.2⟩)
        simp only [List.set_cons_succ, List.set_cons_zero, Nat.reduceAdd]
        apply RegT.T_pure (v := .bool false) rfl rfl rfl
        · intro W hR; clear hR; go_simp
        simp only [List.set_cons_succ, List.set_cons_zero, Nat.reduceAdd]
        iterate 1
          apply RegT.T_pure rfl rfl rfl
          · intro W hR; go_simp; rfl
          simp only [List.set_cons_succ, List.set_cons_zero, Nat.reduceAdd]
        iterate 21
          apply RegT.T_skip rfl rfl rfl
          simp only [List.set_cons_succ, List.set_cons_zero, Nat.reduceAdd]
        apply RegT.T_pure (v := .bool false) rfl rfl rfl
        · intro W hR; clear hR; go_simp
        simp only [List.set_cons_succ, List.set_cons_zero, Nat.reduceAdd]
        refine RegT.T_tail (fun W hR hf => ?_)
        have HC := Lib.hid (And.intro (HC.out.1.below hR) (HC.out.2.trans (hR.mono HC.out.2.size)))
        clear hR hf
        simp only [List.drop_succ_cons, List.drop_zero]
        go_upto_region 5 with fail
        apply RegT.wp_region_F RegT.Grow RegT.Grow.refl RegT.Grow.trans
        · apply RegT.T_pure (v := .agg s.cells) rfl rfl rfl
          · exact fun W hR => load_exec (.tmp 3) rfl rfl (HC.out.1.below hR)
          simp only [List.set_cons_succ, List.set_cons_zero, Nat.reduceAdd]
          iterate 1
            apply RegT.T_pure rfl rfl rfl
            · intro W hR; go_simp; rfl
            simp only [List.set_cons_succ, List.set_cons_zero, Nat.reduceAdd]
          apply RegT.T_const rfl rfl rfl (.bool true) (fun _ _ h => h)
          · intro W hR hf
            have Hc := Lib.hid (HQ1.out W)
            clear hR hf
            go_simp
            exact RegT.OpOK_enter Hc.out (fun e w' h => ⟨_, h.1, rfl, h.2⟩)
          simp only [List.set_cons_succ, List.set_cons_zero, Nat.reduceAdd]
          iterate 1
            apply RegT.T_pure rfl rfl rfl
            · intro W hR; go_simp; rfl
            simp only [List.set_cons_succ, List.set_cons_zero, Nat.reduceAdd]
          apply RegT.T_pure (v := .agg s.cells) rfl rfl rfl
          · exact fun W hR => load_exec (.tmp 3) rfl rfl (HC.out.1.below hR)
          simp only [List.set_cons_succ, List.set_cons_zero, Nat.reduceAdd]
          iterate 1
            apply RegT.T_pure rfl rfl rfl
            · intro W hR; go_simp; rfl
            simp only [List.set_cons_succ, List.set_cons_zero, Nat.reduceAdd]
          apply RegT.T_const rfl rfl rfl (.bool false) (fun _ _ h => h)
          · intro W hR hf
            have Hc := Lib.hid (HQ2.out W)
            clear hR hf
            go_simp
            exact RegT.OpOK_enter Hc.out (fun e w' h => ⟨_, h.1, rfl, h.2⟩)
          simp only [List.set_cons_succ, List.set_cons_zero, Nat.reduceAdd]
          apply RegT.T_pure (v := .bool false) rfl rfl rfl
          · intro W hR; clear hR; go_simp
          simp only [List.set_cons_succ, List.set_cons_zero, Nat.reduceAdd]
          iterate 1
            apply RegT.T_pure rfl rfl rfl
            · intro W hR; go_simp; rfl
            simp only [List.set_cons_succ, List.set_cons_zero, Nat.reduceAdd]
          iterate 21
            apply RegT.T_skip rfl rfl rfl
            simp only [List.set_cons_succ, List.set_cons_zero, Nat.reduceAdd]
          apply RegT.T_pure (v := .bool false) rfl rfl rfl
          · intro W hR; clear hR; go_simp
          simp only [List.set_cons_succ, List.set_cons_zero, Nat.reduceAdd]
          refine RegT.T_tail (fun W hR hf => ?_)
          have HC := Lib.hid (And.intro (HC.out.1.below hR) (HC.out.2.trans (hR.mono HC.out.2.size)))
          clear hR hf
          simp only [List.drop_succ_cons, List.drop_zero]
          go_wp2_with (go_at_call 46; with_reducible refine (known4_w _).mono ?_; rintro r w3 ⟨rfl, hB⟩; have HC := Lib.hid (And.intro (HC.out.1.below hB) (HC.out.2.trans (hB.mono HC.out.2.size))); clear hB)
          go_ret
          exact ⟨rfl, HC.out.2⟩
        · rfl
      · rfl
    · obtain ⟨rfl, rfl⟩ := hqa rfl rfl
      clear hpa hqa
      go_enter Try.func12, Try.ntmps12
      go_upto_region 3 with fail
      apply RegT.wp_region_F RegT.Grow RegT.Grow.refl RegT.Grow.trans
      · apply RegT.T_pure (v := .agg s.cells) rfl rfl rfl
        · exact fun W hR => load_exec (.tmp 3) rfl rfl (HC.out.1.below hR)
        simp only [List.set_cons_succ, List.set_cons_zero, Nat.reduceAdd]
        iterate 1
          apply RegT.T_pure rfl rfl rfl
          · intro W hR; go_simp; rfl
          simp only [List.set_cons_succ, List.set_cons_zero, Nat.reduceAdd]
        apply RegT.T_const rfl rfl rfl (.bool true) (fun _ _ h => h)
        · intro W hR hf
          have Hc := Lib.hid (HP1.out W)
          clear hR hf
          go_simp
          exact RegT.OpOK_enter Hc.out (fun e w' h => ⟨_, h.1, rfl, h.2⟩)
        simp only [List.set_cons_succ, List.set_cons_zero, Nat.reduceAdd]
        iterate 1
          apply RegT.T_pure rfl rfl rfl
          · intro W hR; go_simp; rfl
          simp only [List.set_cons_succ, List.set_cons_zero, Nat.reduceAdd]
        apply RegT.T_pure (v := .agg s.cells) rfl rfl rfl
        · exact fun W hR => load_exec (.tmp 3) rfl rfl (HC.out.1.below hR)
        simp only [List.set_cons_succ, List.set_cons_zero, Nat.reduceAdd]
        iterate 1
          apply RegT.T_pure rfl rfl rfl
          · intro W hR; go_simp; rfl
          simp only [List.set_cons_succ, List.set_cons_zero, Nat.reduceAdd]
        apply RegT.T_const rfl rfl rfl (.bool false) (fun _ _ h => h)
        · intro W hR hf
          have Hc := Lib.hid (HP2.out W)
          clear hR hf
          go_simp
          exact RegT.OpOK_enter Hc.out (fun e w' h => ⟨_, h.1, rfl, h.2⟩)
        simp only [List.set_cons_succ, List.set_cons_zero, Nat.reduceAdd]
        apply RegT.T_pure (v := .bool false) rfl rfl rfl
        · intro W hR; clear hR; go_simp
        simp only [List.set_cons_succ, List.set_cons_zero, Nat.reduceAdd]
        iterate 1
          apply RegT.T_pure rfl rfl rfl
          · intro W hR; go_simp; rfl
          simp only [List.set_cons_succ, List.set_cons_zero, Nat.reduceAdd]
        iterate 21
          apply RegT.T_skip rfl rfl rfl
          simp only [List.set_cons_succ, List.set_cons_zero, Nat.reduceAdd]
        apply RegT.T_pure (v := .bool false) rfl rfl rfl
        · intro W hR; clear hR; go_simp
        simp only [List.set_cons_succ, List.set_cons_zero, Nat.reduceAdd]
        refine RegT.T_tail (fun W hR hf => ?_)
        have HC := Lib.hid (And.intro (HC.out.1.below hR) (HC.out.2.trans (hR.mono HC.out.2.size)))
        clear hR hf
        simp only [List.drop_succ_cons, List.drop_zero]
        go_upto_region 5 with fail
        apply RegT.wp_region_F RegT.Grow RegT.Grow.refl RegT.Grow.trans
        · apply RegT.T_pure (v := .agg s.cells) rfl rfl rfl
          · exact fun W hR => load_exec (.tmp 3) rfl rfl (HC.out.1.below hR)
          simp only [List.set_cons_succ, List.set_cons_zero, Nat.reduceAdd]
          iterate 1
            apply RegT.T_pure rfl rfl rfl
            · intro W hR; go_simp; rfl
            simp only [List.set_cons_succ, List.set_cons_zero, Nat.reduceAdd]
          apply RegT.T_const rfl rfl rfl (.bool true) (fun _ _ h => h)
          · intro W hR hf
            have Hc := Lib.hid (HQ1.out W)
            clear hR hf
            go_simp
            exact RegT.OpOK_enter Hc.out (fun e w' h => ⟨_, h.1, rfl, h.2⟩)
          simp only [List.set_cons_succ, List.set_cons_zero, Nat.reduceAdd]
          iterate 1
            apply RegT.T_pure rfl rfl rfl
            · intro W hR; go_simp; rfl
            simp only [List.set_cons_succ, List.set_cons_zero, Nat.reduceAdd]
          apply RegT.T_pure (v := .agg s.cells) rfl rfl rfl
          · exact fun W hR => load_exec (.tmp 3) rfl rfl (HC.out.1.below hR)
          simp only [List.set_cons_succ, List.set_cons_zero, Nat.reduceAdd]
          iterate 1
            apply RegT.T_pure rfl rfl rfl
            · intro W hR; go_simp; rfl
            simp only [List.set_cons_succ, List.set_cons_zero, Nat.reduceAdd]
          apply RegT.T_const rfl rfl rfl (.bool true) (fun _ _ h => h)
          · intro W hR hf
            have Hc := Lib.hid (HQ2.out W)
            clear hR hf
            go_simp
            exact RegT.OpOK_enter Hc.out (fun e w' h => ⟨_, h.1, rfl, h.2⟩)
          simp only [List.set_cons_succ, List.set_cons_zero, Nat.reduceAdd]
          apply RegT.T_pure (v := .bool true) rfl rfl rfl
          · intro W hR; clear hR; go_simp
          simp only [List.set_cons_succ, List.set_cons_zero, Nat.reduceAdd]
          iterate 1
            apply RegT.T_pure rfl rfl rfl
            · intro W hR; go_simp; rfl
            simp only [List.set_cons_succ, List.set_cons_zero, Nat.reduceAdd]
          apply RegT.T_pure (v := .agg s.cells) rfl rfl rfl
          · exact fun W hR => load_exec (.tmp 3) rfl rfl (HC.out.1.below hR)
          simp only [List.set_cons_succ, List.set_cons_zero, Nat.reduceAdd]
          iterate 2
            apply RegT.T_pure rfl rfl rfl
            · intro W hR; go_simp; rfl
            simp only [List.set_cons_succ, List.set_cons_zero, Nat.reduceAdd]
          apply RegT.T_pure (v := .int .i64 (a + b)) rfl rfl rfl
          · intro W hR; clear hR; go_simp
          simp only [List.set_cons_succ, List.set_cons_zero, Nat.reduceAdd]
          apply RegT.T_const rfl rfl rfl (.bool (decide (a + b ≤ 1000000))) (fun _ _ h => h)
          · intro W hR hf
            have Hc := Lib.hid (HQ3.out W)
            clear hR hf
            go_simp
            exact RegT.OpOK_enter Hc.out (fun e w' h => ⟨_, h.1, rfl, h.2⟩)
          simp only [List.set_cons_succ, List.set_cons_zero, Nat.reduceAdd]
          iterate 2
            apply RegT.T_pure rfl rfl rfl
            · intro W hR; go_simp; rfl
            simp only [List.set_cons_succ, List.set_cons_zero, Nat.reduceAdd]
          apply RegT.T_pure (v := .int .i64 (a + b)) rfl rfl rfl
          · intro W hR; clear hR; go_simp
          simp only [List.set_cons_succ, List.set_cons_zero, Nat.reduceAdd]
          apply RegT.T_pure (v := .bool (decide (a + b ≤ 1000000))) rfl rfl rfl
          · intro W hR; clear hR; go_simp
          simp only [List.set_cons_succ, List.set_cons_zero, Nat.reduceAdd]
          apply RegT.T_pure (v := .bool false) rfl rfl rfl
          · intro W hR; clear hR; go_simp
          simp only [List.set_cons_succ, List.set_cons_zero, Nat.reduceAdd]
          iterate 1
            apply RegT.T_pure rfl rfl rfl
            · intro W hR; go_simp; rfl
            simp only [List.set_cons_succ, List.set_cons_zero, Nat.reduceAdd]
          apply RegT.T_pure (v := .agg s.cells) rfl rfl rfl
          · exact fun W hR => load_exec (.tmp 3) rfl rfl (HC.out.1.below hR)
          simp only [List.set_cons_succ, List.set_cons_zero, Nat.reduceAdd]
          iterate 2
            apply RegT.T_pure rfl rfl rfl
            · intro W hR; go_simp; rfl
            simp only [List.set_cons_succ, List.set_cons_zero, Nat.reduceAdd]
          apply RegT.T_pure (v := .int .i64 (a - b)) rfl rfl rfl
          · intro W hR; clear hR; go_simp
          simp only [List.set_cons_succ, List.set_cons_zero, Nat.reduceAdd]
          apply RegT.T_const rfl rfl rfl (.bool (decide (b < a))) (fun _ _ h => h)
          · intro W hR hf
            have Hc := Lib.hid (HQ4.out W)
            clear hR hf
            go_simp
            exact RegT.OpOK_enter Hc.out (fun e w' h => ⟨_, h.1, rfl, h.2⟩)
          simp only [List.set_cons_succ, List.set_cons_zero, Nat.reduceAdd]
          iterate 2
            apply RegT.T_pure rfl rfl rfl
            · intro W hR; go_simp; rfl
            simp only [List.set_cons_succ, List.set_cons_zero, Nat.reduceAdd]
          apply RegT.T_pure (v := .bool (decide (b < a))) rfl rfl rfl
          · intro W hR; clear hR; go_simp
          simp only [List.set_cons_succ, List.set_cons_zero, Nat.reduceAdd]
          apply RegT.T_pure (v := .bool false) rfl rfl rfl
          · intro W hR; clear hR; go_simp
          simp only [List.set_cons_succ, List.set_cons_zero, Nat.reduceAdd]
          apply RegT.T_pure (v := .bool false) rfl rfl rfl
          · intro W hR; clear hR; go_simp
          simp only [List.set_cons_succ, List.set_cons_zero, Nat.reduceAdd]
          apply RegT.T_pure (v := .bool false) rfl rfl rfl
          · intro W hR; clear hR; go_simp
          simp only [List.set_cons_succ, List.set_cons_zero, Nat.reduceAdd]
          refine RegT.T_tail (fun W hR hf => ?_)
          have HC := Lib.hid (And.intro (HC.out.1.below hR) (HC.out.2.trans (hR.mono HC.out.2.size)))
          clear hR hf
          simp only [List.drop_succ_cons, List.drop_zero]
          go_wp2_with (go_at_call 46; with_reducible refine (known4_w _).mono ?_; rintro r w3 ⟨rfl, hB⟩; have HC := Lib.hid (And.intro (HC.out.1.below hB) (HC.out.2.trans (hB.mono HC.out.2.size))); clear hB)
          go_ret
          exact ⟨rfl, HC.out.2⟩
        · rfl
      · rfl
  · rcases hq with rfl | ⟨rfl, rfl⟩ | ⟨rfl, rfl⟩
    · obtain ⟨rfl, rfl⟩ := hpa rfl rfl
      clear hpa hqa
      go_enter Try.func12, Try.ntmps12
      go_upto_region 3 with fail
      apply RegT.wp_region_F RegT.Grow RegT.Grow.refl RegT.Grow.trans
      · apply RegT.T_pure (v := .agg s.cells) rfl rfl rfl
        · exact fun W hR => load_exec (.tmp 3) rfl rfl (HC.out.1.below hR)
        simp only [List.set_cons_succ, List.set_cons_zero, Nat.reduceAdd]
        iterate 1
          apply RegT.T_pure rfl rfl rfl
          · intro W hR; go_simp; rfl
          simp only [List.set_cons_succ, List.set_cons_zero, Nat.reduceAdd]
        apply RegT.T_const rfl rfl rfl (.bool true) (fun _ _ h => h)
        · intro W hR hf
          have Hc := Lib.hid (HP1.out W)
          clear hR hf
          go_simp
          exact RegT.OpOK_enter Hc.out (fun e w' h => ⟨_, h.1, rfl, h.2⟩)
        simp only [List.set_cons_succ, List.set_cons_zero, Nat.reduceAdd]
        iterate 1
          apply RegT.T_pure rfl rfl rfl
          · intro W hR; go_simp; rfl
          simp only [List.set_cons_succ, List.set_cons_zero, Nat.reduceAdd]
        apply RegT.T_pure (v := .agg s.cells) rfl rfl rfl
        · exact fun W hR => load_exec (.tmp 3) rfl rfl (HC.out.1.below hR)
        simp only [List.set_cons_succ, List.set_cons_zero, Nat.reduceAdd]
        iterate 1
          apply RegT.T_pure rfl rfl rfl
          · intro W hR; go_simp; rfl
          simp only [List.set_cons_succ, List.set_cons_zero, Nat.reduceAdd]
        apply RegT.T_const rfl rfl rfl (.bool true) (fun _ _ h => h)
        · intro W hR hf
          have Hc := Lib.hid (HP2.out W)
          clear hR hf
          go_simp
          exact RegT.OpOK_enter Hc.out (fun e w' h => ⟨_, h.1, rfl, h.2⟩)
        simp only [List.set_cons_succ, List.set_cons_zero, Nat.reduceAdd]
        apply RegT.T_pure (v := .bool true) rfl rfl rfl
        · intro W hR; clear hR; go_simp
        simp only [List.set_cons_succ, List.set_cons_zero, Nat.reduceAdd]
        iterate 1
          apply RegT.T_pure rfl rfl rfl
          · intro W hR; go_simp; rfl
          simp only [List.set_cons_succ, List.set_cons_zero, Nat.reduceAdd]
        apply RegT.T_pure (v := .agg s.cells) rfl rfl rfl
        · exact fun W hR => load_exec (.tmp 3) rfl rfl (HC.out.1.below hR)
        simp only [List.set_cons_succ, List.set_cons_zero, Nat.reduceAdd]
        iterate 2
          apply RegT.T_pure rfl rfl rfl
          · intro W hR; go_simp; rfl
          simp only [List.set_cons_succ, List.set_cons_zero, Nat.reduceAdd]
        apply RegT.T_pure (v := .int .i64 (a + b)) rfl rfl rfl
        · intro W hR; clear hR; go_simp
        simp only [List.set_cons_succ, List.set_cons_zero, Nat.reduceAdd]
        apply RegT.T_const rfl rfl rfl (.bool (decide (a + b ≤ 10000000))) (fun _ _ h => h)
        · intro W hR hf
          have Hc := Lib.hid (HP3.out W)
          clear hR hf
          go_simp
          exact RegT.OpOK_enter Hc.out (fun e w' h => ⟨_, h.1, rfl, h.2⟩)
        simp only [List.set_cons_succ, List.set_cons_zero, Nat.reduceAdd]
        iterate 2
          apply RegT.T_pure rfl rfl rfl
          · intro W hR; go_simp; rfl
          simp only [List.set_cons_succ, List.set_cons_zero, Nat.reduceAdd]
        apply RegT.T_pure (v := .int .i64 (a + b)) rfl rfl rfl
        · intro W hR; clear hR; go_simp
        simp only [List.set_cons_succ, List.set_cons_zero, Nat.reduceAdd]
        apply RegT.T_pure (v := .bool (decide (a + b ≤ 10000000))) rfl rfl rfl
        · intro W hR; clear hR; go_simp
        simp only [List.set_cons_succ, List.set_cons_zero, Nat.reduceAdd]
        apply RegT.T_pure (v := .bool false) rfl rfl rfl
        · intro W hR; clear hR; go_simp
        simp only [List.set_cons_succ, List.set_cons_zero, Nat.reduceAdd]
        iterate 1
          apply RegT.T_pure rfl rfl rfl
          · intro W hR; go_simp; rfl
          simp only [List.set_cons_succ, List.set_cons_zero, Nat.reduceAdd]
        apply RegT.T_pure (v := .agg s.cells) rfl rfl rfl
        · exact fun W hR => load_exec (.tmp 3) rfl rfl (HC.out.1.below hR)
        simp only [List.set_cons_succ, List.set_cons_zero, Nat.reduceAdd]
        iterate 2
          apply RegT.T_pure rfl rfl rfl
          · intro W hR; go_simp; rfl
          simp only [List.set_cons_succ, List.set_cons_zero, Nat.reduceAdd]
        apply RegT.T_pure (v := .int .i64 (a - b)) rfl rfl rfl
        · intro W hR; clear hR; go_simp
        simp only [List.set_cons_succ, List.set_cons_zero, Nat.reduceAdd]
        apply RegT.T_const rfl rfl rfl (.bool (decide (b < a))) (fun _ _ h => h)
        · intro W hR hf
          have Hc := Lib.hid (HP4.out W)
          clear hR hf
          go_simp
          exact RegT.OpOK_enter Hc.out (fun e w' h => ⟨_, h.1, rfl, h.2⟩)
        simp only [List.set_cons_succ, List.set_cons_zero, Nat.reduceAdd]
        iterate 2
          apply RegT.T_pure rfl rfl rfl
          · intro W hR; go_simp; rfl
          simp only [List.set_cons_succ, List.set_cons_zero, Nat.reduceAdd]
        apply RegT.T_pure (v := .bool (decide (b < a))) rfl rfl rfl
        · intro W hR; clear hR; go_simp
        simp only [List.set_cons_succ, List.set_cons_zero, Nat.reduceAdd]
        apply RegT.T_pure (v := .bool false) rfl rfl rfl
        · intro W hR; clear hR; go_simp
        simp only [List.set_cons_succ, List.set_cons_zero, Nat.reduceAdd]
        apply RegT.T_pure (v := .bool false) rfl rfl rfl
        · intro W hR; clear hR; go_simp
        simp only [List.set_cons_succ, List.set_cons_zero, Nat.reduceAdd]
        apply RegT.T_pure (v := .bool false) rfl rfl rfl
        · intro W hR; clear hR; go_simp
        simp only [List.set_cons_succ, List.set_cons_zero, Nat.reduceAdd]
        refine RegT.T_tail (fun W hR hf => ?_)
        have HC := Lib.hid (And.intro (HC.out.1.below hR) (HC.out.2.trans (hR.mono HC.out.2.size)))
        clear hR hf
        simp only [List.drop_succ_cons, List.drop_zero]
        go_upto_region 5 with fail
        apply RegT.wp_region_F RegT.Grow RegT.Grow.refl RegT.Grow.trans
        · apply RegT.T_pure (v := .agg s.cells) rfl rfl rfl
          · exact fun W hR => load_exec (.tmp 3) rfl rfl (HC.out.1.below hR)
          simp only [List.set_cons_succ, List.set_cons_zero, Nat.reduceAdd]
          iterate 1
            apply RegT.T_pure rfl rfl rfl
            · intro W hR; go_simp; rfl
            simp only [List.set_cons_succ, List.set_cons_zero, Nat.reduceAdd]
          apply RegT.T_const rfl rfl rfl (.bool false) (fun _ _ h => h)
          · intro W hR hf
            have Hc := Lib.hid (HQ1.out W)
            clear hR hf
            go_simp
            exact RegT.OpOK_enter Hc.out (fun e w' h => ⟨_, h.1, rfl, h.2⟩)
          simp only [List.set_cons_succ, List.set_cons_zero, Nat.reduceAdd]
          iterate 1
            apply RegT.T_pure rfl rfl rfl
            · intro W hR; go_simp; rfl
            simp only [List.set_cons_succ, List.set_cons_zero, Nat.reduceAdd]
          iterate 3
            apply RegT.T_skip rfl rfl rfl
            simp only [List.set_cons_succ, List.set_cons_zero, Nat.reduceAdd]
          apply RegT.T_pure (v := .bool false) rfl rfl rfl
          · intro W hR; clear hR; go_simp
          simp only [List.set_cons_succ, List.set_cons_zero, Nat.reduceAdd]
          iterate 1
            apply RegT.T_pure rfl rfl rfl
            · intro W hR; go_simp; rfl
            simp only [List.set_cons_succ, List.set_cons_zero, Nat.reduceAdd]
          iterate 21
            apply RegT.T_skip rfl rfl rfl
            simp only [List.set_cons_succ, List.set_cons_zero, Nat.reduceAdd]
          apply RegT.T_pure (v := .bool false) rfl rfl rfl
          · intro W hR; clear hR; go_simp
          simp only [List.set_cons_succ, List.set_cons_zero, Nat.reduceAdd]
          refine RegT.T_tail (fun W hR hf => ?_)
          have HC := Lib.hid (And.intro (HC.out.1.below hR) (HC.out.2.trans (hR.mono HC.out.2.size)))
          clear hR hf
          simp only [List.drop_succ_cons, List.drop_zero]
          go_wp2_with (go_at_call 46; with_reducible refine (known4_w _).mono ?_; rintro r w3 ⟨rfl, hB⟩; have HC := Lib.hid (And.intro (HC.out.1.below hB) (HC.out.2.trans (hB.mono HC.out.2.size))); clear hB)
          go_ret
          exact ⟨rfl, HC.out.2⟩
        · rfl
      · rfl
    · obtain ⟨rfl, rfl⟩ := hpa rfl rfl
      clear hpa hqa
      go_enter Try.func12, Try.ntmps12
      go_upto_region 3 with fail
      apply RegT.wp_region_F RegT.Grow RegT.Grow.refl RegT.Grow.trans
      · apply RegT.T_pure (v := .agg s.cells) rfl rfl rfl
        · exact fun W hR => load_exec (.tmp 3) rfl rfl (HC.out.1.below hR)
        simp only [List.set_cons_succ, List.set_cons_zero, Nat.reduceAdd]
        iterate 1
          apply RegT.T_pure rfl rfl rfl
          · intro W hR; go_simp; rfl
          simp only [List.set_cons_succ, List.set_cons_zero, Nat.reduceAdd]
        apply RegT.T_const rfl rfl rfl (.bool true) (fun _ _ h => h)
        · intro W hR hf
          have Hc := Lib.hid (HP1.out W)
          clear hR hf
          go_simp
          exact RegT.OpOK_enter Hc.out (fun e w' h => ⟨_, h.1, rfl, h.2⟩)
        simp only [List.set_cons_succ, List.set_cons_zero, Nat.reduceAdd]
        iterate 1
          apply RegT.T_pure rfl rfl rfl
          · intro W hR; go_simp; rfl
          simp only [List.set_cons_succ, List.set_cons_zero, Nat.reduceAdd]
        apply RegT.T_pure (v := .agg s.cells) rfl rfl rfl
        · exact fun W hR => load_exec (.tmp 3) rfl rfl (HC.out.1.below hR)
        simp only [List.set_cons_succ, List.set_cons_zero, Nat.reduceAdd]
        iterate 1
          apply RegT.T_pure rfl rfl rfl
          · intro W hR; go_simp; rfl
          simp only [List.set_cons_succ, List.set_cons_zero, Nat.reduceAdd]
        apply RegT.T_const rfl rfl rfl (.bool true) (fun _ _ h => h)
        · intro W hR hf
          have Hc := Lib.hid (HP2.out W)
          clear hR hf
          go_simp
          exact RegT.OpOK_enter Hc.out (fun e w' h => ⟨_, h.1, rfl, h.2⟩)
        simp only [List.set_cons_succ, List.set_cons_zero, Nat.reduceAdd]
        apply RegT.T_pure (v := .bool true) rfl rfl rfl
        · intro W hR; clear hR; go_simp
        simp only [List.set_cons_succ, List.set_cons_zero, Nat.reduceAdd]
        iterate 1
          apply RegT.T_pure rfl rfl rfl
          · intro W hR; go_simp; rfl
          simp only [List.set_cons_succ, List.set_cons_zero, Nat.reduceAdd]
        apply RegT.T_pure (v := .agg s.cells) rfl rfl rfl
        · exact fun W hR => load_exec (.tmp 3) rfl rfl (HC.out.1.below hR)
        simp only [List.set_cons_succ, List.set_cons_zero, Nat.reduceAdd]
        iterate 2
          apply RegT.T_pure rfl rfl rfl
          · intro W hR; go_simp; rfl
          simp only [List.set_cons_succ, List.set_cons_zero, Nat.reduceAdd]
        apply RegT.T_pure (v := .int .i64 (a + b)) rfl rfl rfl
        · intro W hR; clear hR; go_simp
        simp only [List.set_cons_succ, List.set_cons_zero, Nat.reduceAdd]
        apply RegT.T_const rfl rfl rfl (.bool (decide (a + b ≤ 10000000))) (fun _ _ h => h)
        · intro W hR hf
          have Hc := Lib.hid (HP3.out W)
          clear hR hf
          go_simp
          exact RegT.OpOK_enter Hc.out (fun e w' h => ⟨_, h.1, rfl, h.2⟩)
        simp only [List.set_cons_succ, List.set_cons_zero, Nat.reduceAdd]
        iterate 2
          apply RegT.T_pure rfl rfl rfl
          · intro W hR; go_simp; rfl
          simp only [List.set_cons_succ, List.set_cons_zero, Nat.reduceAdd]
        apply RegT.T_pure (v := .int .i64 (a + b)) rfl rfl rfl
        · intro W hR; clear hR; go_simp
        simp only [List.set_cons_succ, List.set_cons_zero, Nat.reduceAdd]
        apply RegT.T_pure (v := .bool (decide (a + b ≤ 10000000))) rfl rfl rfl
        · intro W hR; clear hR; go_simp
        simp only [List.set_cons_succ, List.set_cons_zero, Nat.reduceAdd]
        apply RegT.T_pure (v := .bool false) rfl rfl rfl
        · intro W hR; clear hR; go_simp
        simp only [List.set_cons_succ, List.set_cons_zero, Nat.reduceAdd]
        iterate 1
          apply RegT.T_pure rfl rfl rfl
          · intro W hR; go_simp; rfl
          simp only [List.set_cons_succ, List.set_cons_zero, Nat.reduceAdd]
        apply RegT.T_pure (v := .agg s.cells) rfl rfl rfl
        · exact fun W hR => load_exec (.tmp 3) rfl rfl (HC.out.1.below hR)
        simp only [List.set_cons_succ, List.set_cons_zero, Nat.reduceAdd]
        iterate 2
          apply RegT.T_pure rfl rfl rfl
          · intro W hR; go_simp; rfl
          simp only [List.set_cons_succ, List.set_cons_zero, Nat.reduceAdd]
        apply RegT.T_pure (v := .int .i64 (a - b)) rfl rfl rfl
        · intro W hR; clear hR; go_simp
        simp only [List.set_cons_succ, List.set_cons_zero, Nat.reduceAdd]
        apply RegT.T_const rfl rfl rfl (.bool (decide (b < a))) (fun _ _ h => h)
        · intro W hR hf
          have Hc := Lib.hid (HP4.out W)
          clear hR hf
          go_simp
          exact RegT.OpOK_enter Hc.out (fun e w' h => ⟨_, h.1, rfl, h.2⟩)
        simp only [List.set_cons_succ, List.set_cons_zero, Nat.reduceAdd]
        iterate 2
          apply RegT.T_pure rfl rfl rfl
          · intro W hR; go_simp; rfl
          simp only [List.set_cons_succ, List.set_cons_zero, Nat.reduceAdd]
        apply RegT.T_pure (v := .bool (decide (b < a))) rfl rfl rfl
        · intro W hR; clear hR; go_simp
        simp only [List.set_cons_succ, List.set_cons_zero, Nat.reduceAdd]
        apply RegT.T_pure (v := .bool false) rfl rfl rfl
        · intro W hR; clear hR; go_simp
        simp only [List.set_cons_succ, List.set_cons_zero, Nat.reduceAdd]
        apply RegT.T_pure (v := .bool false) rfl rfl rfl
        · intro W hR; clear hR; go_simp
        simp only [List.set_cons_succ, List.set_cons_zero, Nat.reduceAdd]
        apply RegT.T_pure (v := .bool false) rfl rfl rfl
        · intro W hR; clear hR; go_simp
        simp only [List.set_cons_succ, List.set_cons_zero, Nat.reduceAdd]
        refine RegT.T_tail (fun W hR hf => ?_)
        have HC := Lib.hid (And.intro (HC.out.1.below hR) (HC.out.2.trans (hR.mono HC.out.2.size)))
        clear hR hf
        simp only [List.drop_succ_cons, List.drop_zero]
        go_upto_region 5 with fail
        apply RegT.wp_region_F RegT.Grow RegT.Grow.refl RegT.Grow.trans
        · apply RegT.T_pure (v := .agg s.cells) rfl rfl rfl
          · exact fun W hR => load_exec (.tmp 3) rfl rfl (HC.out.1.below hR)
          simp only [List.set_cons_succ, List.set_cons_zero, Nat.reduceAdd]
          iterate 1
            apply RegT.T_pure rfl rfl rfl
            · intro W hR; go_simp; rfl
            simp only [List.set_cons_succ, List.set_cons_zero, Nat.reduceAdd]
          apply RegT.T_const rfl rfl rfl (.bool true) (fun _ _ h => h)
          · intro W hR hf
            have Hc := Lib.hid (HQ1.out W)
            clear hR hf
            go_simp
            exact RegT.OpOK_enter Hc.out (fun e w' h => ⟨_, h.1, rfl, h.2⟩)
          simp only [List.set_cons_succ, List.set_cons_zero, Nat.reduceAdd]
          iterate 1
            apply RegT.T_pure rfl rfl rfl
            · intro W hR; go_simp; rfl
            simp only [List.set_cons_succ, List.set_cons_zero, Nat.reduceAdd]
          apply RegT.T_pure (v := .agg s.cells) rfl rfl rfl
          · exact fun W hR => load_exec (.tmp 3) rfl rfl (HC.out.1.below hR)
          simp only [List.set_cons_succ, List.set_cons_zero, Nat.reduceAdd]
          iterate 1
            apply RegT.T_pure rfl rfl rfl
            · intro W hR; go_simp; rfl
            simp only [List.set_cons_succ, List.set_cons_zero, Nat.reduceAdd]
          apply RegT.T_const rfl rfl rfl (.bool false) (fun _ _ h => h)
          · intro W hR hf
            have Hc := Lib.hid (HQ2.out W)
            clear hR hf
            go_simp
            exact RegT.OpOK_enter Hc.out (fun e w' h => ⟨_, h.1, rfl, h.2⟩)
          simp only [List.set_cons_succ, List.set_cons_zero, Nat.reduceAdd]
          apply RegT.T_pure (v := .bool false) rfl rfl rfl
          · intro W hR; clear hR; go_simp
          simp only [List.set_cons_succ, List.set_cons_zero, Nat.reduceAdd]
          iterate 1
            apply RegT.T_pure rfl rfl rfl
            · intro W hR; go_simp; rfl
            simp only [List.set_cons_succ, List.set_cons_zero, Nat.reduceAdd]
          iterate 21
            apply RegT.T_skip rfl rfl rfl
            simp only [List.set_cons_succ, List.set_cons_zero, Nat.reduceAdd]
          apply RegT.T_pure (v := .bool false) rfl rfl rfl
          · intro W hR; clear hR; go_simp
          simp only [List.set_cons_succ, List.set_cons_zero, Nat.reduceAdd]
          refine RegT.T_tail (fun W hR hf => ?_)
          have HC := Lib.hid (And.intro (HC.out.1.below hR) (HC.out.2.trans (hR.mono HC.out.2.size)))
          clear hR hf
          simp only [List.drop_succ_cons, List.drop_zero]
          go_wp2_with (go_at_call 46; with_reducible refine (known4_w _).mono ?_; rintro r w3 ⟨rfl, hB⟩; have HC := Lib.hid (And.intro (HC.out.1.below hB) (HC.out.2.trans (hB.mono HC.out.2.size))); clear hB)
          go_ret
          exact ⟨rfl, HC.out.2⟩
        · rfl
      · rfl
    · obtain ⟨rfl, rfl⟩ := hpa rfl rfl
      obtain ⟨rfl, rfl⟩ := hqa rfl rfl
      clear hpa hqa
      go_enter Try.func12, Try.ntmps12
      go_upto_region 3 with fail
      apply RegT.wp_region_F RegT.Grow RegT.Grow.refl RegT.Grow.trans
      · apply RegT.T_pure (v := .agg s.cells) rfl rfl rfl
        · exact fun W hR => load_exec (.tmp 3) rfl rfl (HC.out.1.below hR)
        simp only [List.set_cons_succ, List.set_cons_zero, Nat.reduceAdd]
        iterate 1
          apply RegT.T_pure rfl rfl rfl
          · intro W hR; go_simp; rfl
          simp only [List.set_cons_succ, List.set_cons_zero, Nat.reduceAdd]
        apply RegT.T_const rfl rfl rfl (.bool true) (fun _ _ h => h)
        · intro W hR hf
          have Hc := Lib.hid (HP1.out W)
          clear hR hf
          go_simp
          exact RegT.OpOK_enter Hc.out (fun e w' h => ⟨_, h.1, rfl, h.2⟩)
        simp only [List.set_cons_succ, List.set_cons_zero, Nat.reduceAdd]
        iterate 1
          apply RegT.T_pure rfl rfl rfl
          · intro W hR; go_simp; rfl
          simp only [List.set_cons_succ, List.set_cons_zero, Nat.reduceAdd]
        apply RegT.T_pure (v := .agg s.cells) rfl rfl rfl
        · exact fun W hR => load_exec (.tmp 3) rfl rfl (HC.out.1.below hR)
        simp only [List.set_cons_succ, List.set_cons_zero, Nat.reduceAdd]
        iterate 1
          apply RegT.T_pure rfl rfl rfl
          · intro W hR; go_simp; rfl
          simp only [List.set_cons_succ, List.set_cons_zero, Nat.reduceAdd]
        apply RegT.T_const rfl rfl rfl (.bool true) (fun _ _ h => h)
        · intro W hR hf
          have Hc := Lib.hid (HP2.out W)
          clear hR hf
          go_simp
          exact RegT.OpOK_enter Hc.out (fun e w' h => ⟨_, h.1, rfl, h.2⟩)
        simp only [List.set_cons_succ, List.set_cons_zero, Nat.reduceAdd]
        apply RegT.T_pure (v := .bool true) rfl rfl rfl
        · intro W hR; clear hR; go_simp
        simp only [List.set_cons_succ, List.set_cons_zero, Nat.reduceAdd]
        iterate 1
          apply RegT.T_pure rfl rfl rfl
          · intro W hR; go_simp; rfl
          simp only [List.set_cons_succ, List.set_cons_zero, Nat.reduceAdd]
        apply RegT.T_pure (v := .agg s.cells) rfl rfl rfl
        · exact fun W hR => load_exec (.tmp 3) rfl rfl (HC.out.1.below hR)
        simp only [List.set_cons_succ, List.set_cons_zero, Nat.reduceAdd]
        iterate 2
          apply RegT.T_pure rfl rfl rfl
          · intro W hR; go_simp; rfl
          simp only [List.set_cons_succ, List.set_cons_zero, Nat.reduceAdd]
        apply RegT.T_pure (v := .int .i64 (a + b)) rfl rfl rfl
        · intro W hR; clear hR; go_simp
        simp only [List.set_cons_succ, List.set_cons_zero, Nat.reduceAdd]
        apply RegT.T_const rfl rfl rfl (.bool (decide (a + b ≤ 10000000))) (fun _ _ h => h)
        · intro W hR hf
          have Hc := Lib.hid (HP3.out W)
          clear hR hf
          go_simp
          exact RegT.OpOK_enter Hc.out (fun e w' h => ⟨_, h.1, rfl, h.2⟩)
        simp only [List.set_cons_succ, List.set_cons_zero, Nat.reduceAdd]
        iterate 2
          apply RegT.T_pure rfl rfl rfl
          · intro W hR; go_simp; rfl
          simp only [List.set_cons_succ, List.set_cons_zero, Nat.reduceAdd]
        apply RegT.T_pure (v := .int .i64 (a + b)) rfl rfl rfl
        · intro W hR; clear hR; go_simp
        simp only [List.set_cons_succ, List.set_cons_zero, Nat.reduceAdd]
        apply RegT.T_pure (v := .bool (decide (a + b ≤ 10000000))) rfl rfl rfl
        · intro W hR; clear hR; go_simp
        simp only [List.set_cons_succ, List.set_cons_zero, Nat.reduceAdd]
        apply RegT.T_pure (v := .bool false) rfl rfl rfl
        · intro W hR; clear hR; go_simp
        simp only [List.set_cons_succ, List.set_cons_zero, Nat.reduceAdd]
        iterate 1
          apply RegT.T_pure rfl rfl rfl
          · intro W hR; go_simp; rfl
          simp only [List.set_cons_succ, List.set_cons_zero, Nat.reduceAdd]
        apply RegT.T_pure (v := .agg s.cells) rfl rfl rfl
        · exact fun W hR => load_exec (.tmp 3) rfl rfl (HC.out.1.below hR)
        simp only [List.set_cons_succ, List.set_cons_zero, Nat.reduceAdd]
        iterate 2
          apply RegT.T_pure rfl rfl rfl
          · intro W hR; go_simp; rfl
          simp only [List.set_cons_succ, List.set_cons_zero, Nat.reduceAdd]
        apply RegT.T_pure (v := .int .i64 (a - b)) rfl rfl rfl
        · intro W hR; clear hR; go_simp
        simp only [List.set_cons_succ, List.set_cons_zero, Nat.reduceAdd]
        apply RegT.T_const rfl rfl rfl (.bool (decide (b < a))) (fun _ _ h => h)
        · intro W hR hf
          have Hc := Lib.hid (HP4.out W)
          clear hR hf
          go_simp
          exact RegT.OpOK_enter Hc.out (fun e w' h => ⟨_, h.1, rfl, h.2⟩)
        simp only [List.set_cons_succ, List.set_cons_zero, Nat.reduceAdd]
        iterate 2
          apply RegT.T_pure rfl rfl rfl
          · intro W hR; go_simp; rfl
          simp only [List.set_cons_succ, List.set_cons_zero, Nat.reduceAdd]
        apply RegT.T_pure (v := .bool (decide (b < a))) rfl rfl rfl
        · intro W hR; clear hR; go_simp
        simp only [List.set_cons_succ, List.set_cons_zero, Nat.reduceAdd]
        apply RegT.T_pure (v := .bool false) rfl rfl rfl
        · intro W hR; clear hR; go_simp
        simp only [List.set_cons_succ, List.set_cons_zero, Nat.reduceAdd]
        apply RegT.T_pure (v := .bool false) rfl rfl rfl
        · intro W hR; clear hR; go_simp
        simp only [List.set_cons_succ, List.set_cons_zero, Nat.reduceAdd]
        apply RegT.T_pure (v := .bool false) rfl rfl rfl
        · intro W hR; clear hR; go_simp
        simp only [List.set_cons_succ, List.set_cons_zero, Nat.reduceAdd]
        refine RegT.T_tail (fun W hR hf => ?_)
        have HC := Lib.hid (And.intro (HC.out.1.below hR) (HC.out.2.trans (hR.mono HC.out.2.size)))
        clear hR hf
        simp only [List.drop_succ_cons, List.drop_zero]
        go_upto_region 5 with fail
        apply RegT.wp_region_F RegT.Grow RegT.Grow.refl RegT.Grow.trans
        · apply RegT.T_pure (v := .agg s.cells) rfl rfl rfl
          · exact fun W hR => load_exec (.tmp 3) rfl rfl (HC.out.1.below hR)
          simp only [List.set_cons_succ, List.set_cons_zero, Nat.reduceAdd]
          iterate 1
            apply RegT.T_pure rfl rfl rfl
            · intro W hR; go_simp; rfl
            simp only [List.set_cons_succ, List.set_cons_zero, Nat.reduceAdd]
          apply RegT.T_const rfl rfl rfl (.bool true) (fun _ _ h => h)
          · intro W hR hf
            have Hc := Lib.hid (HQ1.out W)
            clear hR hf
            go_simp
            exact RegT.OpOK_enter Hc.out (fun e w' h => ⟨_, h.1, rfl, h.2⟩)
          simp only [List.set_cons_succ, List.set_cons_zero, Nat.reduceAdd]
          iterate 1
            apply RegT.T_pure rfl rfl rfl
            · intro W hR; go_simp; rfl
            simp only [List.set_cons_succ, List.set_cons_zero, Nat.reduceAdd]
          apply RegT.T_pure (v := .agg s.cells) rfl rfl rfl
          · exact fun W hR => load_exec (.tmp 3) rfl rfl (HC.out.1.below hR)
          simp only [List.set_cons_succ, List.set_cons_zero, Nat.reduceAdd]
          iterate 1
            apply RegT.T_pure rfl rfl rfl
            · intro W hR; go_simp; rfl
            simp only [List.set_cons_succ, List.set_cons_zero, Nat.reduceAdd]
          apply RegT.T_const rfl rfl rfl (.bool true) (fun _ _ h => h)
          · intro W hR hf
            have Hc := Lib.hid (HQ2.out W)
            clear hR hf
            go_simp
            exact RegT.OpOK_enter Hc.out (fun e w' h => ⟨_, h.1, rfl, h.2⟩)
          simp only [List.set_cons_succ, List.set_cons_zero, Nat.reduceAdd]
          apply RegT.T_pure (v := .bool true) rfl rfl rfl
          · intro W hR; clear hR; go_simp
          simp only [List.set_cons_succ, List.set_cons_zero, Nat.reduceAdd]
          iterate 1
            apply RegT.T_pure rfl rfl rfl
            · intro W hR; go_simp; rfl
            simp only [List.set_cons_succ, List.set_cons_zero, Nat.reduceAdd]
          apply RegT.T_pure (v := .agg s.cells) rfl rfl rfl
          · exact fun W hR => load_exec (.tmp 3) rfl rfl (HC.out.1.below hR)
          simp only [List.set_cons_succ, List.set_cons_zero, Nat.reduceAdd]
          iterate 2
            apply RegT.T_pure rfl rfl rfl
            · intro W hR; go_simp; rfl
            simp only [List.set_cons_succ, List.set_cons_zero, Nat.reduceAdd]
          apply RegT.T_pure (v := .int .i64 (a + b)) rfl rfl rfl
          · intro W hR; clear hR; go_simp
          simp only [List.set_cons_succ, List.set_cons_zero, Nat.reduceAdd]
          apply RegT.T_const rfl rfl rfl (.bool (decide (a + b ≤ 1000000))) (fun _ _ h => h)
          · intro W hR hf
            have Hc := Lib.hid (HQ3.out W)
            clear hR hf
            go_simp
            exact RegT.OpOK_enter Hc.out (fun e w' h => ⟨_, h.1, rfl, h.2⟩)
          simp only [List.set_cons_succ, List.set_cons_zero, Nat.reduceAdd]
          iterate 2
            apply RegT.T_pure rfl rfl rfl
            · intro W hR; go_simp; rfl
            simp only [List.set_cons_succ, List.set_cons_zero, Nat.reduceAdd]
          apply RegT.T_pure (v := .int .i64 (a + b)) rfl rfl rfl
          · intro W hR; clear hR; go_simp
          simp only [List.set_cons_succ, List.set_cons_zero, Nat.reduceAdd]
          apply RegT.T_pure (v := .bool (decide (a + b ≤ 1000000))) rfl rfl rfl
          · intro W hR; clear hR; go_simp
          simp only [List.set_cons_succ, List.set_cons_zero, Nat.reduceAdd]
          apply RegT.T_pure (v := .bool false) rfl rfl rfl
          · intro W hR; clear hR; go_simp
          simp only [List.set_cons_succ, List.set_cons_zero, Nat.reduceAdd]
          iterate 1
            apply RegT.T_pure rfl rfl rfl
            · intro W hR; go_simp; rfl
            simp only [List.set_cons_succ, List.set_cons_zero, Nat.reduceAdd]
          apply RegT.T_pure (v := .agg s.cells) rfl rfl rfl
          · exact fun W hR => load_exec (.tmp 3) rfl rfl (HC.out.1.below hR)
          simp only [List.set_cons_succ, List.set_cons_zero, Nat.reduceAdd]
          iterate 2
            apply RegT.T_pure rfl rfl rfl
            · intro W hR; go_simp; rfl
            simp only [List.set_cons_succ, List.set_cons_zero, Nat.reduceAdd]
          apply RegT.T_pure (v := .int .i64 (a - b)) rfl rfl rfl
          · intro W hR; clear hR; go_simp
          simp only [List.set_cons_succ, List.set_cons_zero, Nat.reduceAdd]
          apply RegT.T_const rfl rfl rfl (.bool (decide (b < a))) (fun _ _ h => h)
          · intro W hR hf
            have Hc := Lib.hid (HQ4.out W)
            clear hR hf
            go_simp
            exact RegT.OpOK_enter Hc.out (fun e w' h => ⟨_, h.1, rfl, h.2⟩)
          simp only [List.set_cons_succ, List.set_cons_zero, Nat.reduceAdd]
          iterate 2
            apply RegT.T_pure rfl rfl rfl
            · intro W hR; go_simp; rfl
            simp only [List.set_cons_succ, List.set_cons_zero, Nat.reduceAdd]
          apply RegT.T_pure (v := .bool (decide (b < a))) rfl rfl rfl
          · intro W hR; clear hR; go_simp
          simp only [List.set_cons_succ, List.set_cons_zero, Nat.reduceAdd]
          apply RegT.T_pure (v := .bool false) rfl rfl rfl
          · intro W hR; clear hR; go_simp
          simp only [List.set_cons_succ, List.set_cons_zero, Nat.reduceAdd]
          apply RegT.T_pure (v := .bool false) rfl rfl rfl
          · intro W hR; clear hR; go_simp
          simp only [List.set_cons_succ, List.set_cons_zero, Nat.reduceAdd]
          apply RegT.T_pure (v := .bool false) rfl rfl rfl
          · intro W hR; clear hR; go_simp
          simp only [List.set_cons_succ, List.set_cons_zero, Nat.reduceAdd]
          refine RegT.T_tail (fun W hR hf => ?_)
          have HC := Lib.hid (And.intro (HC.out.1.below hR) (HC.out.2.trans (hR.mono HC.out.2.size)))
          clear hR hf
          simp only [List.drop_succ_cons, List.drop_zero]
          go_wp2_with (go_at_call 46; with_reducible refine (known4_w _).mono ?_; rintro r w3 ⟨rfl, hB⟩; have HC := Lib.hid (And.intro (HC.out.1.below hB) (HC.out.2.trans (hB.mono HC.out.2.size))); clear hB)
          go_ret
          exact ⟨rfl, HC.out.2⟩
        · rfl
      · rfl
end Go.Proofs.Ytpbdnndpdidagaa
