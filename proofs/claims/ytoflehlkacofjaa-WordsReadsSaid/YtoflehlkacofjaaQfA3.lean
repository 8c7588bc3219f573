/- Whether a command may be: the program's MayCommand. -/
import Derived.Test.YtoflehlkacofjaaQfA2
namespace Go.Proofs.Ytoflehlkacofjaa
open Go.ChangeShapes Go.WideShapes Go.ChangeAt Go.RowKit
set_option linter.unusedVariables false
theorem exec_eq30 {o : Oper} {e : Operand → Value} {W : World} {cx cy : Array Value} {b : Bool} (x y : Operand) (ho : o.op = .binOp .eql 30 x y 30) (hx : e x = .agg cx) (hy : e y = .agg cy) (h : (binOp .eql 30 (.agg cx) (.agg cy)).run Try.prog W = .ok (.bool b) W) :
    (execOp e o).run Try.prog W = .ok (.value (.bool b)) W := by
  unfold execOp
  simp only [ho, hx, hy]
  simp [guard30, h]
set_option maxRecDepth 100000 in
set_option maxHeartbeats 3200000 in
theorem may19_0_w (x : Cm) (hok : x.ok) (w : World) (h0 : x.kind < 1) :
    Calls Try.prog 19 #[.agg x.cells] w fun e w' => e = .returned (.bool false) ∧ Below w.heap.size w w' := by
  have hB0 := (Below.refl w.heap.size w).alloc (Nat.le_refl _) (.cells x.cells 30)
  have HB0 := Lib.hid hB0
  have HX := Lib.hid (fun (W : World) (hR : RegT.Grow (w.alloc (.cells x.cells 30)).drew W) => (CcAt.new w x.cells).keeps ((Keeps.refl _).drew.trans hR.block))
  obtain ⟨k, hk⟩ : ∃ k, x.kind = k := ⟨_, rfl⟩
  have HK := Lib.hid (fun (W : World) (hR : RegT.Grow (w.alloc (.cells x.cells 30)).drew W) => (show W.cell? ⟨w.heap.size, 0, none⟩ = some (.int .u8 (k : Int)) from ((HX.out W hR).at 0).trans (by rw [← hk]; rfl)))
  have hs := (show x.cells.size = 35 from rfl)
  have e1 : decide ((1 : Int) ≤ (k : Int)) = false := by simp; omega
  clear hB0
  go_enter Try.func19, Try.ntmps19
  go_wp2
  apply RegT.wp_region_T rfl 27 25 rfl (by kernel_rfl) RegT.Grow RegT.Grow.refl RegT.Grow.trans
  · apply RegT.T_pure rfl rfl rfl
    · intro W hR; clear hR; go_simp; rfl
    simp only [List.set_cons_succ, List.set_cons_zero, Nat.reduceAdd]
    apply RegT.T_pure rfl rfl rfl
    · intro W hR
      have hc := HK.out W hR
      clear hR
      go_simp; rfl
    simp only [List.set_cons_succ, List.set_cons_zero, Nat.reduceAdd]
    apply RegT.T_pure (v := .bool false) rfl rfl rfl
    · intro W hR; clear hR; go_simp
    simp only [List.set_cons_succ, List.set_cons_zero, Nat.reduceAdd]
    apply RegT.T_pure (v := .bool false) rfl rfl rfl
    · intro W hR; clear hR; go_simp
    simp only [List.set_cons_succ, List.set_cons_zero, Nat.reduceAdd]
    apply RegT.T_skip rfl rfl rfl
    simp only [List.set_cons_succ, List.set_cons_zero, Nat.reduceAdd]
    apply RegT.T_skip rfl rfl rfl
    simp only [List.set_cons_succ, List.set_cons_zero, Nat.reduceAdd]
    apply RegT.T_skip rfl rfl rfl
    simp only [List.set_cons_succ, List.set_cons_zero, Nat.reduceAdd]
    apply RegT.T_pure (v := .bool false) rfl rfl rfl
    · intro W hR; clear hR; go_simp
    simp only [List.set_cons_succ, List.set_cons_zero, Nat.reduceAdd]
    apply RegT.T_pure (v := .bool false) rfl rfl rfl
    · intro W hR; clear hR; go_simp
    simp only [List.set_cons_succ, List.set_cons_zero, Nat.reduceAdd]
    apply RegT.T_skip rfl rfl rfl
    simp only [List.set_cons_succ, List.set_cons_zero, Nat.reduceAdd]
    apply RegT.T_skip rfl rfl rfl
    simp only [List.set_cons_succ, List.set_cons_zero, Nat.reduceAdd]
    apply RegT.T_skip rfl rfl rfl
    simp only [List.set_cons_succ, List.set_cons_zero, Nat.reduceAdd]
    apply RegT.T_skip rfl rfl rfl
    simp only [List.set_cons_succ, List.set_cons_zero, Nat.reduceAdd]
    apply RegT.T_pure (v := .bool false) rfl rfl rfl
    · intro W hR; clear hR; go_simp
    simp only [List.set_cons_succ, List.set_cons_zero, Nat.reduceAdd]
    apply RegT.T_pure (v := .bool false) rfl rfl rfl
    · intro W hR; clear hR; go_simp
    simp only [List.set_cons_succ, List.set_cons_zero, Nat.reduceAdd]
    apply RegT.T_skip rfl rfl rfl
    simp only [List.set_cons_succ, List.set_cons_zero, Nat.reduceAdd]
    apply RegT.T_skip rfl rfl rfl
    simp only [List.set_cons_succ, List.set_cons_zero, Nat.reduceAdd]
    apply RegT.T_skip rfl rfl rfl
    simp only [List.set_cons_succ, List.set_cons_zero, Nat.reduceAdd]
    apply RegT.T_skip rfl rfl rfl
    simp only [List.set_cons_succ, List.set_cons_zero, Nat.reduceAdd]
    apply RegT.T_skip rfl rfl rfl
    simp only [List.set_cons_succ, List.set_cons_zero, Nat.reduceAdd]
    apply RegT.T_skip rfl rfl rfl
    simp only [List.set_cons_succ, List.set_cons_zero, Nat.reduceAdd]
    apply RegT.T_skip rfl rfl rfl
    simp only [List.set_cons_succ, List.set_cons_zero, Nat.reduceAdd]
    apply RegT.T_skip rfl rfl rfl
    simp only [List.set_cons_succ, List.set_cons_zero, Nat.reduceAdd]
    apply RegT.T_pure (v := .bool false) rfl rfl rfl
    · intro W hR; clear hR; go_simp
    simp only [List.set_cons_succ, List.set_cons_zero, Nat.reduceAdd]
    apply RegT.T_pure rfl rfl rfl
    · intro W hR; clear hR; go_simp; rfl
    simp only [List.set_cons_succ, List.set_cons_zero, Nat.reduceAdd]
    refine RegT.T_end rfl (fun W5 hR hf => ?_)
    have HB5 := Lib.hid (HB0.out.trans (((Below.refl _ _).drew.trans hR).mono HB0.out.size))
    clear hR hf HX HK
    go_wp2
    go_ret
    exact ⟨rfl, HB5.out⟩
  · rfl
  · kernel_rfl
set_option maxRecDepth 100000 in
set_option maxHeartbeats 3200000 in
theorem may19_1_w (x : Cm) (hok : x.ok) (w : World) (h1 : 1 ≤ x.kind) (h2 : 14 < x.kind) :
    Calls Try.prog 19 #[.agg x.cells] w fun e w' => e = .returned (.bool false) ∧ Below w.heap.size w w' := by
  have hB0 := (Below.refl w.heap.size w).alloc (Nat.le_refl _) (.cells x.cells 30)
  have HB0 := Lib.hid hB0
  have HX := Lib.hid (fun (W : World) (hR : RegT.Grow (w.alloc (.cells x.cells 30)).drew W) => (CcAt.new w x.cells).keeps ((Keeps.refl _).drew.trans hR.block))
  obtain ⟨k, hk⟩ : ∃ k, x.kind = k := ⟨_, rfl⟩
  have HK := Lib.hid (fun (W : World) (hR : RegT.Grow (w.alloc (.cells x.cells 30)).drew W) => (show W.cell? ⟨w.heap.size, 0, none⟩ = some (.int .u8 (k : Int)) from ((HX.out W hR).at 0).trans (by rw [← hk]; rfl)))
  have hs := (show x.cells.size = 35 from rfl)
  have e1 : decide ((1 : Int) ≤ (k : Int)) = true := by simp; omega
  have e2 : decide ((k : Int) ≤ 14) = false := by simp; omega
  clear hB0
  go_enter Try.func19, Try.ntmps19
  go_wp2
  apply RegT.wp_region_T rfl 27 25 rfl (by kernel_rfl) RegT.Grow RegT.Grow.refl RegT.Grow.trans
  · apply RegT.T_pure rfl rfl rfl
    · intro W hR; clear hR; go_simp; rfl
    simp only [List.set_cons_succ, List.set_cons_zero, Nat.reduceAdd]
    apply RegT.T_pure rfl rfl rfl
    · intro W hR
      have hc := HK.out W hR
      clear hR
      go_simp; rfl
    simp only [List.set_cons_succ, List.set_cons_zero, Nat.reduceAdd]
    apply RegT.T_pure (v := .bool true) rfl rfl rfl
    · intro W hR; clear hR; go_simp
    simp only [List.set_cons_succ, List.set_cons_zero, Nat.reduceAdd]
    apply RegT.T_pure (v := .bool true) rfl rfl rfl
    · intro W hR; clear hR; go_simp
    simp only [List.set_cons_succ, List.set_cons_zero, Nat.reduceAdd]
    apply RegT.T_pure rfl rfl rfl
    · intro W hR; clear hR; go_simp; rfl
    simp only [List.set_cons_succ, List.set_cons_zero, Nat.reduceAdd]
    apply RegT.T_pure rfl rfl rfl
    · intro W hR
      have hc := HK.out W hR
      clear hR
      go_simp; rfl
    simp only [List.set_cons_succ, List.set_cons_zero, Nat.reduceAdd]
    apply RegT.T_pure (v := .bool false) rfl rfl rfl
    · intro W hR; clear hR; go_simp
    simp only [List.set_cons_succ, List.set_cons_zero, Nat.reduceAdd]
    apply RegT.T_pure (v := .bool false) rfl rfl rfl
    · intro W hR; clear hR; go_simp
    simp only [List.set_cons_succ, List.set_cons_zero, Nat.reduceAdd]
    apply RegT.T_pure (v := .bool false) rfl rfl rfl
    · intro W hR; clear hR; go_simp
    simp only [List.set_cons_succ, List.set_cons_zero, Nat.reduceAdd]
    apply RegT.T_skip rfl rfl rfl
    simp only [List.set_cons_succ, List.set_cons_zero, Nat.reduceAdd]
    apply RegT.T_skip rfl rfl rfl
    simp only [List.set_cons_succ, List.set_cons_zero, Nat.reduceAdd]
    apply RegT.T_skip rfl rfl rfl
    simp only [List.set_cons_succ, List.set_cons_zero, Nat.reduceAdd]
    apply RegT.T_skip rfl rfl rfl
    simp only [List.set_cons_succ, List.set_cons_zero, Nat.reduceAdd]
    apply RegT.T_pure (v := .bool false) rfl rfl rfl
    · intro W hR; clear hR; go_simp
    simp only [List.set_cons_succ, List.set_cons_zero, Nat.reduceAdd]
    apply RegT.T_pure (v := .bool false) rfl rfl rfl
    · intro W hR; clear hR; go_simp
    simp only [List.set_cons_succ, List.set_cons_zero, Nat.reduceAdd]
    apply RegT.T_skip rfl rfl rfl
    simp only [List.set_cons_succ, List.set_cons_zero, Nat.reduceAdd]
    apply RegT.T_skip rfl rfl rfl
    simp only [List.set_cons_succ, List.set_cons_zero, Nat.reduceAdd]
    apply RegT.T_skip rfl rfl rfl
    simp only [List.set_cons_succ, List.set_cons_zero, Nat.reduceAdd]
    apply RegT.T_skip rfl rfl rfl
    simp only [List.set_cons_succ, List.set_cons_zero, Nat.reduceAdd]
    apply RegT.T_skip rfl rfl rfl
    simp only [List.set_cons_succ, List.set_cons_zero, Nat.reduceAdd]
    apply RegT.T_skip rfl rfl rfl
    simp only [List.set_cons_succ, List.set_cons_zero, Nat.reduceAdd]
    apply RegT.T_skip rfl rfl rfl
    simp only [List.set_cons_succ, List.set_cons_zero, Nat.reduceAdd]
    apply RegT.T_skip rfl rfl rfl
    simp only [List.set_cons_succ, List.set_cons_zero, Nat.reduceAdd]
    apply RegT.T_pure (v := .bool false) rfl rfl rfl
    · intro W hR; clear hR; go_simp
    simp only [List.set_cons_succ, List.set_cons_zero, Nat.reduceAdd]
    apply RegT.T_pure rfl rfl rfl
    · intro W hR; clear hR; go_simp; rfl
    simp only [List.set_cons_succ, List.set_cons_zero, Nat.reduceAdd]
    refine RegT.T_end rfl (fun W5 hR hf => ?_)
    have HB5 := Lib.hid (HB0.out.trans (((Below.refl _ _).drew.trans hR).mono HB0.out.size))
    clear hR hf HX HK
    go_wp2
    go_ret
    exact ⟨rfl, HB5.out⟩
  · rfl
  · kernel_rfl
set_option maxRecDepth 100000 in
set_option maxHeartbeats 3200000 in
theorem may19_2_w (x : Cm) (hok : x.ok) (w : World) (h1 : 1 ≤ x.kind) (h2 : x.kind ≤ 14) (h3 : x.same x.bare = false) :
    Calls Try.prog 19 #[.agg x.cells] w fun e w' => e = .returned (.bool false) ∧ Below w.heap.size w w' := by
  have hB0 := (Below.refl w.heap.size w).alloc (Nat.le_refl _) (.cells x.cells 30)
  have HB0 := Lib.hid hB0
  have HX := Lib.hid (fun (W : World) (hR : RegT.Grow (w.alloc (.cells x.cells 30)).drew W) => (CcAt.new w x.cells).keeps ((Keeps.refl _).drew.trans hR.block))
  obtain ⟨k, hk⟩ : ∃ k, x.kind = k := ⟨_, rfl⟩
  have HK := Lib.hid (fun (W : World) (hR : RegT.Grow (w.alloc (.cells x.cells 30)).drew W) => (show W.cell? ⟨w.heap.size, 0, none⟩ = some (.int .u8 (k : Int)) from ((HX.out W hR).at 0).trans (by rw [← hk]; rfl)))
  have HBr := Lib.hid (fun W => bare_w x W h1 h2)
  have HEq := Lib.hid (fun W => (show (binOp .eql 30 (.agg x.cells) (.agg x.bare.cells)).run Try.prog W = .ok (.bool false) W from by rw [eql30, h3]))
  have HGd := Lib.hid (fun W => guard30 .eql (.tmp 12) (.tmp 14) x.cells x.bare.cells W)
  have hs := (show x.cells.size = 35 from rfl)
  have e1 : decide ((1 : Int) ≤ (k : Int)) = true := by simp; omega
  have e2 : decide ((k : Int) ≤ 14) = true := by simp; omega
  clear hB0
  go_enter Try.func19, Try.ntmps19
  go_wp2
  apply RegT.wp_region_T rfl 27 25 rfl (by kernel_rfl) RegT.Grow RegT.Grow.refl RegT.Grow.trans
  · apply RegT.T_pure rfl rfl rfl
    · intro W hR; clear hR; go_simp; rfl
    simp only [List.set_cons_succ, List.set_cons_zero, Nat.reduceAdd]
    apply RegT.T_pure rfl rfl rfl
    · intro W hR
      have hc := HK.out W hR
      clear hR
      go_simp; rfl
    simp only [List.set_cons_succ, List.set_cons_zero, Nat.reduceAdd]
    apply RegT.T_pure (v := .bool true) rfl rfl rfl
    · intro W hR; clear hR; go_simp
    simp only [List.set_cons_succ, List.set_cons_zero, Nat.reduceAdd]
    apply RegT.T_pure (v := .bool true) rfl rfl rfl
    · intro W hR; clear hR; go_simp
    simp only [List.set_cons_succ, List.set_cons_zero, Nat.reduceAdd]
    apply RegT.T_pure rfl rfl rfl
    · intro W hR; clear hR; go_simp; rfl
    simp only [List.set_cons_succ, List.set_cons_zero, Nat.reduceAdd]
    apply RegT.T_pure rfl rfl rfl
    · intro W hR
      have hc := HK.out W hR
      clear hR
      go_simp; rfl
    simp only [List.set_cons_succ, List.set_cons_zero, Nat.reduceAdd]
    apply RegT.T_pure (v := .bool true) rfl rfl rfl
    · intro W hR; clear hR; go_simp
    simp only [List.set_cons_succ, List.set_cons_zero, Nat.reduceAdd]
    apply RegT.T_pure (v := .bool true) rfl rfl rfl
    · intro W hR; clear hR; go_simp
    simp only [List.set_cons_succ, List.set_cons_zero, Nat.reduceAdd]
    apply RegT.T_pure (v := .bool true) rfl rfl rfl
    · intro W hR; clear hR; go_simp
    simp only [List.set_cons_succ, List.set_cons_zero, Nat.reduceAdd]
    apply RegT.T_pure rfl rfl rfl
    · exact fun W hR => load_cc (.tmp 1) rfl rfl (HX.out W hR) hs
    simp only [List.set_cons_succ, List.set_cons_zero, Nat.reduceAdd]
    apply RegT.T_pure rfl rfl rfl
    · exact fun W hR => load_cc (.tmp 1) rfl rfl (HX.out W hR) hs
    simp only [List.set_cons_succ, List.set_cons_zero, Nat.reduceAdd]
    apply RegT.T_const rfl rfl rfl (.agg x.bare.cells) (fun _ _ h => h)
    · intro W hR hf
      have Hc := Lib.hid (HBr.out W)
      clear hR hf
      go_simp
      exact RegT.OpOK_enter Hc.out (fun e w' h => ⟨_, h.1, rfl, h.2⟩)
    simp only [List.set_cons_succ, List.set_cons_zero, Nat.reduceAdd]
    apply RegT.T_pure (v := .bool false) rfl rfl rfl
    · intro W hR; clear hR; (exact exec_eq30 (.tmp 12) (.tmp 14) rfl rfl rfl (HEq.out W))
    simp only [List.set_cons_succ, List.set_cons_zero, Nat.reduceAdd]
    apply RegT.T_pure (v := .bool false) rfl rfl rfl
    · intro W hR; clear hR; go_simp
    simp only [List.set_cons_succ, List.set_cons_zero, Nat.reduceAdd]
    apply RegT.T_pure (v := .bool false) rfl rfl rfl
    · intro W hR; clear hR; go_simp
    simp only [List.set_cons_succ, List.set_cons_zero, Nat.reduceAdd]
    apply RegT.T_skip rfl rfl rfl
    simp only [List.set_cons_succ, List.set_cons_zero, Nat.reduceAdd]
    apply RegT.T_skip rfl rfl rfl
    simp only [List.set_cons_succ, List.set_cons_zero, Nat.reduceAdd]
    apply RegT.T_skip rfl rfl rfl
    simp only [List.set_cons_succ, List.set_cons_zero, Nat.reduceAdd]
    apply RegT.T_skip rfl rfl rfl
    simp only [List.set_cons_succ, List.set_cons_zero, Nat.reduceAdd]
    apply RegT.T_skip rfl rfl rfl
    simp only [List.set_cons_succ, List.set_cons_zero, Nat.reduceAdd]
    apply RegT.T_skip rfl rfl rfl
    simp only [List.set_cons_succ, List.set_cons_zero, Nat.reduceAdd]
    apply RegT.T_skip rfl rfl rfl
    simp only [List.set_cons_succ, List.set_cons_zero, Nat.reduceAdd]
    apply RegT.T_skip rfl rfl rfl
    simp only [List.set_cons_succ, List.set_cons_zero, Nat.reduceAdd]
    apply RegT.T_pure (v := .bool false) rfl rfl rfl
    · intro W hR; clear hR; go_simp
    simp only [List.set_cons_succ, List.set_cons_zero, Nat.reduceAdd]
    apply RegT.T_pure rfl rfl rfl
    · intro W hR; clear hR; go_simp; rfl
    simp only [List.set_cons_succ, List.set_cons_zero, Nat.reduceAdd]
    refine RegT.T_end rfl (fun W5 hR hf => ?_)
    have HB5 := Lib.hid (HB0.out.trans (((Below.refl _ _).drew.trans hR).mono HB0.out.size))
    clear hR hf HX HK
    go_wp2
    go_ret
    exact ⟨rfl, HB5.out⟩
  · rfl
  · kernel_rfl
set_option maxRecDepth 100000 in
set_option maxHeartbeats 3200000 in
theorem may19_3_w (x : Cm) (hok : x.ok) (w : World) (h1 : 1 ≤ x.kind) (h2 : x.kind ≤ 14) (h3 : x.same x.bare = true) (h4 : x.kind ≠ 3) :
    Calls Try.prog 19 #[.agg x.cells] w fun e w' => e = .returned (.bool true) ∧ Below w.heap.size w w' := by
  have hB0 := (Below.refl w.heap.size w).alloc (Nat.le_refl _) (.cells x.cells 30)
  have HB0 := Lib.hid hB0
  have HX := Lib.hid (fun (W : World) (hR : RegT.Grow (w.alloc (.cells x.cells 30)).drew W) => (CcAt.new w x.cells).keeps ((Keeps.refl _).drew.trans hR.block))
  obtain ⟨k, hk⟩ : ∃ k, x.kind = k := ⟨_, rfl⟩
  have HK := Lib.hid (fun (W : World) (hR : RegT.Grow (w.alloc (.cells x.cells 30)).drew W) => (show W.cell? ⟨w.heap.size, 0, none⟩ = some (.int .u8 (k : Int)) from ((HX.out W hR).at 0).trans (by rw [← hk]; rfl)))
  have HBr := Lib.hid (fun W => bare_w x W h1 h2)
  have HEq := Lib.hid (fun W => (show (binOp .eql 30 (.agg x.cells) (.agg x.bare.cells)).run Try.prog W = .ok (.bool true) W from by rw [eql30, h3]))
  have HGd := Lib.hid (fun W => guard30 .eql (.tmp 12) (.tmp 14) x.cells x.bare.cells W)
  have hs := (show x.cells.size = 35 from rfl)
  have e1 : decide ((1 : Int) ≤ (k : Int)) = true := by simp; omega
  have e2 : decide ((k : Int) ≤ 14) = true := by simp; omega
  have e3 : ((k : Int) != 3) = true := by simp; omega
  clear hB0
  go_enter Try.func19, Try.ntmps19
  go_wp2
  apply RegT.wp_region_T rfl 27 25 rfl (by kernel_rfl) RegT.Grow RegT.Grow.refl RegT.Grow.trans
  · apply RegT.T_pure rfl rfl rfl
    · intro W hR; clear hR; go_simp; rfl
    simp only [List.set_cons_succ, List.set_cons_zero, Nat.reduceAdd]
    apply RegT.T_pure rfl rfl rfl
    · intro W hR
      have hc := HK.out W hR
      clear hR
      go_simp; rfl
    simp only [List.set_cons_succ, List.set_cons_zero, Nat.reduceAdd]
    apply RegT.T_pure (v := .bool true) rfl rfl rfl
    · intro W hR; clear hR; go_simp
    simp only [List.set_cons_succ, List.set_cons_zero, Nat.reduceAdd]
    apply RegT.T_pure (v := .bool true) rfl rfl rfl
    · intro W hR; clear hR; go_simp
    simp only [List.set_cons_succ, List.set_cons_zero, Nat.reduceAdd]
    apply RegT.T_pure rfl rfl rfl
    · intro W hR; clear hR; go_simp; rfl
    simp only [List.set_cons_succ, List.set_cons_zero, Nat.reduceAdd]
    apply RegT.T_pure rfl rfl rfl
    · intro W hR
      have hc := HK.out W hR
      clear hR
      go_simp; rfl
    simp only [List.set_cons_succ, List.set_cons_zero, Nat.reduceAdd]
    apply RegT.T_pure (v := .bool true) rfl rfl rfl
    · intro W hR; clear hR; go_simp
    simp only [List.set_cons_succ, List.set_cons_zero, Nat.reduceAdd]
    apply RegT.T_pure (v := .bool true) rfl rfl rfl
    · intro W hR; clear hR; go_simp
    simp only [List.set_cons_succ, List.set_cons_zero, Nat.reduceAdd]
    apply RegT.T_pure (v := .bool true) rfl rfl rfl
    · intro W hR; clear hR; go_simp
    simp only [List.set_cons_succ, List.set_cons_zero, Nat.reduceAdd]
    apply RegT.T_pure rfl rfl rfl
    · exact fun W hR => load_cc (.tmp 1) rfl rfl (HX.out W hR) hs
    simp only [List.set_cons_succ, List.set_cons_zero, Nat.reduceAdd]
    apply RegT.T_pure rfl rfl rfl
    · exact fun W hR => load_cc (.tmp 1) rfl rfl (HX.out W hR) hs
    simp only [List.set_cons_succ, List.set_cons_zero, Nat.reduceAdd]
    apply RegT.T_const rfl rfl rfl (.agg x.bare.cells) (fun _ _ h => h)
    · intro W hR hf
      have Hc := Lib.hid (HBr.out W)
      clear hR hf
      go_simp
      exact RegT.OpOK_enter Hc.out (fun e w' h => ⟨_, h.1, rfl, h.2⟩)
    simp only [List.set_cons_succ, List.set_cons_zero, Nat.reduceAdd]
    apply RegT.T_pure (v := .bool true) rfl rfl rfl
    · intro W hR; clear hR; (exact exec_eq30 (.tmp 12) (.tmp 14) rfl rfl rfl (HEq.out W))
    simp only [List.set_cons_succ, List.set_cons_zero, Nat.reduceAdd]
    apply RegT.T_pure (v := .bool true) rfl rfl rfl
    · intro W hR; clear hR; go_simp
    simp only [List.set_cons_succ, List.set_cons_zero, Nat.reduceAdd]
    apply RegT.T_pure (v := .bool true) rfl rfl rfl
    · intro W hR; clear hR; go_simp
    simp only [List.set_cons_succ, List.set_cons_zero, Nat.reduceAdd]
    apply RegT.T_pure rfl rfl rfl
    · intro W hR; clear hR; go_simp; rfl
    simp only [List.set_cons_succ, List.set_cons_zero, Nat.reduceAdd]
    apply RegT.T_pure rfl rfl rfl
    · intro W hR
      have hc := HK.out W hR
      clear hR
      go_simp; rfl
    simp only [List.set_cons_succ, List.set_cons_zero, Nat.reduceAdd]
    apply RegT.T_pure (v := .bool true) rfl rfl rfl
    · intro W hR; clear hR; go_simp
    simp only [List.set_cons_succ, List.set_cons_zero, Nat.reduceAdd]
    apply RegT.T_pure (v := .bool true) rfl rfl rfl
    · intro W hR; clear hR; go_simp
    simp only [List.set_cons_succ, List.set_cons_zero, Nat.reduceAdd]
    apply RegT.T_skip rfl rfl rfl
    simp only [List.set_cons_succ, List.set_cons_zero, Nat.reduceAdd]
    apply RegT.T_skip rfl rfl rfl
    simp only [List.set_cons_succ, List.set_cons_zero, Nat.reduceAdd]
    apply RegT.T_skip rfl rfl rfl
    simp only [List.set_cons_succ, List.set_cons_zero, Nat.reduceAdd]
    apply RegT.T_pure (v := .bool true) rfl rfl rfl
    · intro W hR; clear hR; go_simp
    simp only [List.set_cons_succ, List.set_cons_zero, Nat.reduceAdd]
    apply RegT.T_pure (v := .bool true) rfl rfl rfl
    · intro W hR; clear hR; go_simp
    simp only [List.set_cons_succ, List.set_cons_zero, Nat.reduceAdd]
    apply RegT.T_pure rfl rfl rfl
    · intro W hR; clear hR; go_simp; rfl
    simp only [List.set_cons_succ, List.set_cons_zero, Nat.reduceAdd]
    refine RegT.T_end rfl (fun W5 hR hf => ?_)
    have HB5 := Lib.hid (HB0.out.trans (((Below.refl _ _).drew.trans hR).mono HB0.out.size))
    clear hR hf HX HK
    go_wp2
    go_ret
    exact ⟨rfl, HB5.out⟩
  · rfl
  · kernel_rfl
set_option maxRecDepth 100000 in
set_option maxHeartbeats 3200000 in
theorem may19_4_w (x : Cm) (hok : x.ok) (w : World) (h1 : 1 ≤ x.kind) (h2 : x.kind ≤ 14) (h3 : x.same x.bare = true) (h4 : x.kind = 3) (h5 : x.spec.mayB = true) :
    Calls Try.prog 19 #[.agg x.cells] w fun e w' => e = .returned (.bool true) ∧ Below w.heap.size w w' := by
  have hB0 := (Below.refl w.heap.size w).alloc (Nat.le_refl _) (.cells x.cells 30)
  have HB0 := Lib.hid hB0
  have HX := Lib.hid (fun (W : World) (hR : RegT.Grow (w.alloc (.cells x.cells 30)).drew W) => (CcAt.new w x.cells).keeps ((Keeps.refl _).drew.trans hR.block))
  obtain ⟨k, hk⟩ : ∃ k, x.kind = k := ⟨_, rfl⟩
  have HK := Lib.hid (fun (W : World) (hR : RegT.Grow (w.alloc (.cells x.cells 30)).drew W) => (show W.cell? ⟨w.heap.size, 0, none⟩ = some (.int .u8 (k : Int)) from ((HX.out W hR).at 0).trans (by rw [← hk]; rfl)))
  have HBr := Lib.hid (fun W => bare_w x W h1 h2)
  have HEq := Lib.hid (fun W => (show (binOp .eql 30 (.agg x.cells) (.agg x.bare.cells)).run Try.prog W = .ok (.bool true) W from by rw [eql30, h3]))
  have HGd := Lib.hid (fun W => guard30 .eql (.tmp 12) (.tmp 14) x.cells x.bare.cells W)
  have HM := Lib.hid (fun W => (show Calls Try.prog 54 #[.agg x.spec.cells] W fun r w' => r = .returned (.bool true) ∧ Below W.heap.size W w' from by have h := may_w x.spec W hok.spec; rw [h5] at h; exact h))
  have hs := (show x.cells.size = 35 from rfl)
  have e1 : decide ((1 : Int) ≤ (k : Int)) = true := by simp; omega
  have e2 : decide ((k : Int) ≤ 14) = true := by simp; omega
  have hk3 : k = 3 := by omega
  subst hk3
  clear hB0
  go_enter Try.func19, Try.ntmps19
  go_wp2
  apply RegT.wp_region_T rfl 27 25 rfl (by kernel_rfl) RegT.Grow RegT.Grow.refl RegT.Grow.trans
  · apply RegT.T_pure rfl rfl rfl
    · intro W hR; clear hR; go_simp; rfl
    simp only [List.set_cons_succ, List.set_cons_zero, Nat.reduceAdd]
    apply RegT.T_pure rfl rfl rfl
    · intro W hR
      have hc := HK.out W hR
      clear hR
      go_simp; rfl
    simp only [List.set_cons_succ, List.set_cons_zero, Nat.reduceAdd]
    apply RegT.T_pure (v := .bool true) rfl rfl rfl
    · intro W hR; clear hR; go_simp
    simp only [List.set_cons_succ, List.set_cons_zero, Nat.reduceAdd]
    apply RegT.T_pure (v := .bool true) rfl rfl rfl
    · intro W hR; clear hR; go_simp
    simp only [List.set_cons_succ, List.set_cons_zero, Nat.reduceAdd]
    apply RegT.T_pure rfl rfl rfl
    · intro W hR; clear hR; go_simp; rfl
    simp only [List.set_cons_succ, List.set_cons_zero, Nat.reduceAdd]
    apply RegT.T_pure rfl rfl rfl
    · intro W hR
      have hc := HK.out W hR
      clear hR
      go_simp; rfl
    simp only [List.set_cons_succ, List.set_cons_zero, Nat.reduceAdd]
    apply RegT.T_pure (v := .bool true) rfl rfl rfl
    · intro W hR; clear hR; go_simp
    simp only [List.set_cons_succ, List.set_cons_zero, Nat.reduceAdd]
    apply RegT.T_pure (v := .bool true) rfl rfl rfl
    · intro W hR; clear hR; go_simp
    simp only [List.set_cons_succ, List.set_cons_zero, Nat.reduceAdd]
    apply RegT.T_pure (v := .bool true) rfl rfl rfl
    · intro W hR; clear hR; go_simp
    simp only [List.set_cons_succ, List.set_cons_zero, Nat.reduceAdd]
    apply RegT.T_pure rfl rfl rfl
    · exact fun W hR => load_cc (.tmp 1) rfl rfl (HX.out W hR) hs
    simp only [List.set_cons_succ, List.set_cons_zero, Nat.reduceAdd]
    apply RegT.T_pure rfl rfl rfl
    · exact fun W hR => load_cc (.tmp 1) rfl rfl (HX.out W hR) hs
    simp only [List.set_cons_succ, List.set_cons_zero, Nat.reduceAdd]
    apply RegT.T_const rfl rfl rfl (.agg x.bare.cells) (fun _ _ h => h)
    · intro W hR hf
      have Hc := Lib.hid (HBr.out W)
      clear hR hf
      go_simp
      exact RegT.OpOK_enter Hc.out (fun e w' h => ⟨_, h.1, rfl, h.2⟩)
    simp only [List.set_cons_succ, List.set_cons_zero, Nat.reduceAdd]
    apply RegT.T_pure (v := .bool true) rfl rfl rfl
    · intro W hR; clear hR; (exact exec_eq30 (.tmp 12) (.tmp 14) rfl rfl rfl (HEq.out W))
    simp only [List.set_cons_succ, List.set_cons_zero, Nat.reduceAdd]
    apply RegT.T_pure (v := .bool true) rfl rfl rfl
    · intro W hR; clear hR; go_simp
    simp only [List.set_cons_succ, List.set_cons_zero, Nat.reduceAdd]
    apply RegT.T_pure (v := .bool true) rfl rfl rfl
    · intro W hR; clear hR; go_simp
    simp only [List.set_cons_succ, List.set_cons_zero, Nat.reduceAdd]
    apply RegT.T_pure rfl rfl rfl
    · intro W hR; clear hR; go_simp; rfl
    simp only [List.set_cons_succ, List.set_cons_zero, Nat.reduceAdd]
    apply RegT.T_pure rfl rfl rfl
    · intro W hR
      have hc := HK.out W hR
      clear hR
      go_simp; rfl
    simp only [List.set_cons_succ, List.set_cons_zero, Nat.reduceAdd]
    apply RegT.T_pure (v := .bool false) rfl rfl rfl
    · intro W hR; clear hR; go_simp
    simp only [List.set_cons_succ, List.set_cons_zero, Nat.reduceAdd]
    apply RegT.T_pure (v := .bool false) rfl rfl rfl
    · intro W hR; clear hR; go_simp
    simp only [List.set_cons_succ, List.set_cons_zero, Nat.reduceAdd]
    apply RegT.T_pure rfl rfl rfl
    · intro W hR; clear hR; go_simp; rfl
    simp only [List.set_cons_succ, List.set_cons_zero, Nat.reduceAdd]
    apply RegT.T_pure rfl rfl rfl
    · exact fun W hR => load_spec (.tmp 22) rfl rfl (HX.out W hR)
    simp only [List.set_cons_succ, List.set_cons_zero, Nat.reduceAdd]
    apply RegT.T_const rfl rfl rfl (.bool true) (fun _ _ h => h)
    · intro W hR hf
      have Hc := Lib.hid (HM.out W)
      clear hR hf
      go_simp
      exact RegT.OpOK_enter Hc.out (fun e w' h => ⟨_, h.1, rfl, h.2⟩)
    simp only [List.set_cons_succ, List.set_cons_zero, Nat.reduceAdd]
    apply RegT.T_pure (v := .bool true) rfl rfl rfl
    · intro W hR; clear hR; go_simp
    simp only [List.set_cons_succ, List.set_cons_zero, Nat.reduceAdd]
    apply RegT.T_pure (v := .bool true) rfl rfl rfl
    · intro W hR; clear hR; go_simp
    simp only [List.set_cons_succ, List.set_cons_zero, Nat.reduceAdd]
    apply RegT.T_pure rfl rfl rfl
    · intro W hR; clear hR; go_simp; rfl
    simp only [List.set_cons_succ, List.set_cons_zero, Nat.reduceAdd]
    refine RegT.T_end rfl (fun W5 hR hf => ?_)
    have HB5 := Lib.hid (HB0.out.trans (((Below.refl _ _).drew.trans hR).mono HB0.out.size))
    clear hR hf HX HK
    go_wp2
    go_ret
    exact ⟨rfl, HB5.out⟩
  · rfl
  · kernel_rfl
set_option maxRecDepth 100000 in
set_option maxHeartbeats 3200000 in
theorem may19_5_w (x : Cm) (hok : x.ok) (w : World) (h1 : 1 ≤ x.kind) (h2 : x.kind ≤ 14) (h3 : x.same x.bare = true) (h4 : x.kind = 3) (h5 : x.spec.mayB = false) :
    Calls Try.prog 19 #[.agg x.cells] w fun e w' => e = .returned (.bool false) ∧ Below w.heap.size w w' := by
  have hB0 := (Below.refl w.heap.size w).alloc (Nat.le_refl _) (.cells x.cells 30)
  have HB0 := Lib.hid hB0
  have HX := Lib.hid (fun (W : World) (hR : RegT.Grow (w.alloc (.cells x.cells 30)).drew W) => (CcAt.new w x.cells).keeps ((Keeps.refl _).drew.trans hR.block))
  obtain ⟨k, hk⟩ : ∃ k, x.kind = k := ⟨_, rfl⟩
  have HK := Lib.hid (fun (W : World) (hR : RegT.Grow (w.alloc (.cells x.cells 30)).drew W) => (show W.cell? ⟨w.heap.size, 0, none⟩ = some (.int .u8 (k : Int)) from ((HX.out W hR).at 0).trans (by rw [← hk]; rfl)))
  have HBr := Lib.hid (fun W => bare_w x W h1 h2)
  have HEq := Lib.hid (fun W => (show (binOp .eql 30 (.agg x.cells) (.agg x.bare.cells)).run Try.prog W = .ok (.bool true) W from by rw [eql30, h3]))
  have HGd := Lib.hid (fun W => guard30 .eql (.tmp 12) (.tmp 14) x.cells x.bare.cells W)
  have HM := Lib.hid (fun W => (show Calls Try.prog 54 #[.agg x.spec.cells] W fun r w' => r = .returned (.bool false) ∧ Below W.heap.size W w' from by have h := may_w x.spec W hok.spec; rw [h5] at h; exact h))
  have hs := (show x.cells.size = 35 from rfl)
  have e1 : decide ((1 : Int) ≤ (k : Int)) = true := by simp; omega
  have e2 : decide ((k : Int) ≤ 14) = true := by simp; omega
  have hk3 : k = 3 := by omega
  subst hk3
  clear hB0
  go_enter Try.func19, Try.ntmps19
  go_wp2
  apply RegT.wp_region_T rfl 27 25 rfl (by kernel_rfl) RegT.Grow RegT.Grow.refl RegT.Grow.trans
  · apply RegT.T_pure rfl rfl rfl
    · intro W hR; clear hR; go_simp; rfl
    simp only [List.set_cons_succ, List.set_cons_zero, Nat.reduceAdd]
    apply RegT.T_pure rfl rfl rfl
    · intro W hR
      have hc := HK.out W hR
      clear hR
      go_simp; rfl
    simp only [List.set_cons_succ, List.set_cons_zero, Nat.reduceAdd]
    apply RegT.T_pure (v := .bool true) rfl rfl rfl
    · intro W hR; clear hR; go_simp
    simp only [List.set_cons_succ, List.set_cons_zero, Nat.reduceAdd]
    apply RegT.T_pure (v := .bool true) rfl rfl rfl
    · intro W hR; clear hR; go_simp
    simp only [List.set_cons_succ, List.set_cons_zero, Nat.reduceAdd]
    apply RegT.T_pure rfl rfl rfl
    · intro W hR; clear hR; go_simp; rfl
    simp only [List.set_cons_succ, List.set_cons_zero, Nat.reduceAdd]
    apply RegT.T_pure rfl rfl rfl
    · intro W hR
      have hc := HK.out W hR
      clear hR
      go_simp; rfl
    simp only [List.set_cons_succ, List.set_cons_zero, Nat.reduceAdd]
    apply RegT.T_pure (v := .bool true) rfl rfl rfl
    · intro W hR; clear hR; go_simp
    simp only [List.set_cons_succ, List.set_cons_zero, Nat.reduceAdd]
    apply RegT.T_pure (v := .bool true) rfl rfl rfl
    · intro W hR; clear hR; go_simp
    simp only [List.set_cons_succ, List.set_cons_zero, Nat.reduceAdd]
    apply RegT.T_pure (v := .bool true) rfl rfl rfl
    · intro W hR; clear hR; go_simp
    simp only [List.set_cons_succ, List.set_cons_zero, Nat.reduceAdd]
    apply RegT.T_pure rfl rfl rfl
    · exact fun W hR => load_cc (.tmp 1) rfl rfl (HX.out W hR) hs
    simp only [List.set_cons_succ, List.set_cons_zero, Nat.reduceAdd]
    apply RegT.T_pure rfl rfl rfl
    · exact fun W hR => load_cc (.tmp 1) rfl rfl (HX.out W hR) hs
    simp only [List.set_cons_succ, List.set_cons_zero, Nat.reduceAdd]
    apply RegT.T_const rfl rfl rfl (.agg x.bare.cells) (fun _ _ h => h)
    · intro W hR hf
      have Hc := Lib.hid (HBr.out W)
      clear hR hf
      go_simp
      exact RegT.OpOK_enter Hc.out (fun e w' h => ⟨_, h.1, rfl, h.2⟩)
    simp only [List.set_cons_succ, List.set_cons_zero, Nat.reduceAdd]
    apply RegT.T_pure (v := .bool true) rfl rfl rfl
    · intro W hR; clear hR; (exact exec_eq30 (.tmp 12) (.tmp 14) rfl rfl rfl (HEq.out W))
    simp only [List.set_cons_succ, List.set_cons_zero, Nat.reduceAdd]
    apply RegT.T_pure (v := .bool true) rfl rfl rfl
    · intro W hR; clear hR; go_simp
    simp only [List.set_cons_succ, List.set_cons_zero, Nat.reduceAdd]
    apply RegT.T_pure (v := .bool true) rfl rfl rfl
    · intro W hR; clear hR; go_simp
    simp only [List.set_cons_succ, List.set_cons_zero, Nat.reduceAdd]
    apply RegT.T_pure rfl rfl rfl
    · intro W hR; clear hR; go_simp; rfl
    simp only [List.set_cons_succ, List.set_cons_zero, Nat.reduceAdd]
    apply RegT.T_pure rfl rfl rfl
    · intro W hR
      have hc := HK.out W hR
      clear hR
      go_simp; rfl
    simp only [List.set_cons_succ, List.set_cons_zero, Nat.reduceAdd]
    apply RegT.T_pure (v := .bool false) rfl rfl rfl
    · intro W hR; clear hR; go_simp
    simp only [List.set_cons_succ, List.set_cons_zero, Nat.reduceAdd]
    apply RegT.T_pure (v := .bool false) rfl rfl rfl
    · intro W hR; clear hR; go_simp
    simp only [List.set_cons_succ, List.set_cons_zero, Nat.reduceAdd]
    apply RegT.T_pure rfl rfl rfl
    · intro W hR; clear hR; go_simp; rfl
    simp only [List.set_cons_succ, List.set_cons_zero, Nat.reduceAdd]
    apply RegT.T_pure rfl rfl rfl
    · exact fun W hR => load_spec (.tmp 22) rfl rfl (HX.out W hR)
    simp only [List.set_cons_succ, List.set_cons_zero, Nat.reduceAdd]
    apply RegT.T_const rfl rfl rfl (.bool false) (fun _ _ h => h)
    · intro W hR hf
      have Hc := Lib.hid (HM.out W)
      clear hR hf
      go_simp
      exact RegT.OpOK_enter Hc.out (fun e w' h => ⟨_, h.1, rfl, h.2⟩)
    simp only [List.set_cons_succ, List.set_cons_zero, Nat.reduceAdd]
    apply RegT.T_pure (v := .bool false) rfl rfl rfl
    · intro W hR; clear hR; go_simp
    simp only [List.set_cons_succ, List.set_cons_zero, Nat.reduceAdd]
    apply RegT.T_pure (v := .bool false) rfl rfl rfl
    · intro W hR; clear hR; go_simp
    simp only [List.set_cons_succ, List.set_cons_zero, Nat.reduceAdd]
    apply RegT.T_pure rfl rfl rfl
    · intro W hR; clear hR; go_simp; rfl
    simp only [List.set_cons_succ, List.set_cons_zero, Nat.reduceAdd]
    refine RegT.T_end rfl (fun W5 hR hf => ?_)
    have HB5 := Lib.hid (HB0.out.trans (((Below.refl _ _).drew.trans hR).mono HB0.out.size))
    clear hR hf HX HK
    go_wp2
    go_ret
    exact ⟨rfl, HB5.out⟩
  · rfl
  · kernel_rfl
theorem may19_w (x : Cm) (hok : x.ok) (w : World) : Calls Try.prog 19 #[.agg x.cells] w fun e w' => e = .returned (.bool x.mayB) ∧ Below w.heap.size w w' := by
  unfold Cm.mayB
  by_cases h1 : 1 ≤ x.kind
  · by_cases h2 : x.kind ≤ 14
    · rw [decide_eq_true h1, decide_eq_true h2, Bool.true_and, Bool.true_and]
      cases h3 : x.same x.bare with
      | false => exact may19_2_w x hok w h1 h2 h3
      | true =>
        rw [Bool.true_and]
        by_cases h4 : x.kind = 3
        · rw [decide_eq_false (by omega), Bool.false_or]
          cases h5 : x.spec.mayB with
          | true => exact may19_4_w x hok w h1 h2 h3 h4 h5
          | false => exact may19_5_w x hok w h1 h2 h3 h4 h5
        · rw [decide_eq_true h4, Bool.true_or]; exact may19_3_w x hok w h1 h2 h3 h4
    · rw [decide_eq_true h1, decide_eq_false h2, Bool.false_and, Bool.and_false]; exact may19_1_w x hok w h1 (by omega)
  · rw [decide_eq_false h1, Bool.false_and]; exact may19_0_w x hok w (by omega)
end Go.Proofs.Ytoflehlkacofjaa
