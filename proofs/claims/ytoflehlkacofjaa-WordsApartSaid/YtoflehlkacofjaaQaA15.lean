/- The walk of the law WordsApart. -/
import Derived.Test.YtoflehlkacofjaaQaA14
namespace Go.Proofs.Ytoflehlkacofjaa
open Go.ChangeShapes Go.WideShapes Go.ChangeAt Go.RowKit
set_option linter.unusedVariables false
/-- The four arguments, in their variables. -/
structure Four (w W : World) (cx cy cr cs : Array Value) : Prop where
  x : CcAt W w.heap.size cx
  y : CcAt W (w.heap.size + 1) cy
  r : RrAt W (w.heap.size + 1 + 1) cr
  s : RrAt W (w.heap.size + 1 + 1 + 1) cs
  below : Below w.heap.size w W
theorem Four.keep {w W W' : World} {cx cy cr cs : Array Value} (h : Four w W cx cy cr cs) (hB : Below W.heap.size W W') : Four w W' cx cy cr cs :=
  ⟨h.x.keeps hB.block, h.y.keeps hB.block, h.r.keeps hB.block, h.s.keeps hB.block, h.below.trans (hB.mono h.below.size)⟩
theorem Four.start (w : World) (cx cy cr cs : Array Value) : Four w ((((w.alloc (.cells cx 30)).alloc (.cells cy 30)).alloc (.cells cr 36)).alloc (.cells cs 36)) cx cy cr cs := by
  have e1 : (w.alloc (.cells cx 30)).heap.size = w.heap.size + 1 := heap_alloc_size w _
  have e2 : ((w.alloc (.cells cx 30)).alloc (.cells cy 30)).heap.size = w.heap.size + 1 + 1 := by rw [heap_alloc_size, e1]
  have e3 : (((w.alloc (.cells cx 30)).alloc (.cells cy 30)).alloc (.cells cr 36)).heap.size = w.heap.size + 1 + 1 + 1 := by rw [heap_alloc_size, e2]
  have k : ∀ (W : World) (o : Obj), Keeps W (W.alloc o) := fun W o => (Keeps.refl W).alloc o
  refine ⟨(((CcAt.new w cx).keeps (k _ _)).keeps (k _ _)).keeps (k _ _), ?_, ?_, ?_, ?_⟩
  · have h := CcAt.new (w.alloc (.cells cx 30)) cy; rw [e1] at h; exact (h.keeps (k _ _)).keeps (k _ _)
  · have h := RrAt.new ((w.alloc (.cells cx 30)).alloc (.cells cy 30)) cr; rw [e2] at h; exact h.keeps (k _ _)
  · have h := RrAt.new (((w.alloc (.cells cx 30)).alloc (.cells cy 30)).alloc (.cells cr 36)) cs; rw [e3] at h; exact h
  · exact ((((Below.refl w.heap.size w).alloc (Nat.le_refl _) _).alloc (by simp) _).alloc (by simp; omega) _).alloc (by simp; omega) _
/-- What the callees do, each at every world that keeps the first one. -/
structure ApC (w : World) (cx cy cr cs : Array Value) (lr ls : Bool) (ex ey er es : Int) (bx by' br bs : List UInt8) (sc sr : Bool) : Prop where
  bX : ∀ W, Calls Try.prog 10 #[.agg cx] W fun e w' => (∃ p n c, e = .returned (.tuple #[.slice p n c, .int .i64 ex]) ∧ RdB w' (.slice p n c) bx) ∧ Below W.heap.size W w'
  bY : ∀ W, Calls Try.prog 10 #[.agg cy] W fun e w' => (∃ p n c, e = .returned (.tuple #[.slice p n c, .int .i64 ey]) ∧ RdB w' (.slice p n c) by') ∧ Below W.heap.size W w'
  lR : ∀ W, Keeps w W → Calls Try.prog 8 #[.agg cr] W fun e w' => e = .returned (.bool lr) ∧ Below W.heap.size W w'
  lS : ∀ W, Keeps w W → Calls Try.prog 8 #[.agg cs] W fun e w' => e = .returned (.bool ls) ∧ Below W.heap.size W w'
  bR : ∀ W, Keeps w W → Calls Try.prog 11 #[.agg cr] W fun e w' => (∃ p n c, e = .returned (.tuple #[.slice p n c, .int .i64 er]) ∧ RdB w' (.slice p n c) br) ∧ Below W.heap.size W w'
  bS : ∀ W, Keeps w W → Calls Try.prog 11 #[.agg cs] W fun e w' => (∃ p n c, e = .returned (.tuple #[.slice p n c, .int .i64 es]) ∧ RdB w' (.slice p n c) bs) ∧ Below W.heap.size W w'
  sm : ∀ W, Keeps w W → Calls Try.prog 12 #[.agg cr, .agg cs] W fun e w' => e = .returned (.bool sr) ∧ Below W.heap.size W w'
  eq : ∀ W, (binOp .eql 30 (.agg cx) (.agg cy)).run Try.prog W = .ok (.bool sc) W
  sx : cx.size = 35
  sy : cy.size = 35
  sR : cr.size = 7
  sS : cs.size = 7
set_option maxRecDepth 100000 in
set_option maxHeartbeats 6400000 in
theorem apartA_w (w : World) (cx cy cr cs : Array Value) (ls : Bool) (ex ey er es : Int) (bx by' br bs : List UInt8) (sc sr : Bool) (HC : ApC w cx cy cr cs true ls ex ey er es bx by' br bs sc sr) :
    Calls Try.prog 3 #[.agg cx, .agg cy, .agg cr, .agg cs] w fun e w' => e = .returned (.bool true) ∧ Below w.heap.size w w' := by
  obtain ⟨W0, hW0⟩ : ∃ W0, (((w.alloc (.cells cx 30)).alloc (.cells cy 30)).alloc (.cells cr 36)).alloc (.cells cs 36) = W0 := ⟨_, rfl⟩
  have HF := Lib.hid (show Four w W0 cx cy cr cs from by rw [← hW0]; exact Four.start w cx cy cr cs)
  have HW0 := Lib.hid hW0
  have hsx := HC.sx
  have hsy := HC.sy
  have hsr := HC.sR
  have hss := HC.sS
  have HN := Lib.hid HC
  clear HC hW0
  go_enter Try.func3, Try.ntmps3
  go_upto_region 1 with fail
  rw [HW0.out]
  go_wp2_with (first
    | (refine wpList_load_rr rfl (.tmp 6) rfl rfl HF.out.r hsr ?_)
    | (go_at_call 8; (with_reducible refine (HN.out.lR _ (Below.keeps HF.out.below)).mono ?_); rintro e w1 ⟨rfl, hB⟩; have HF := Lib.hid (HF.out.keep hB); clear hB)
    | (go_at_call 9; (with_reducible refine (known9_w _).mono ?_); rintro e w9 ⟨rfl, hB⟩; have HFk := Lib.hid (HF.out.keep hB); clear hB))
  go_ret
  exact ⟨rfl, HFk.out.below⟩
set_option maxRecDepth 100000 in
set_option maxHeartbeats 6400000 in
theorem apartB_w (w : World) (cx cy cr cs : Array Value) (ls : Bool) (ex ey er es : Int) (bx by' br bs : List UInt8) (sc sr : Bool) (HC : ApC w cx cy cr cs false true ex ey er es bx by' br bs sc sr) :
    Calls Try.prog 3 #[.agg cx, .agg cy, .agg cr, .agg cs] w fun e w' => e = .returned (.bool true) ∧ Below w.heap.size w w' := by
  obtain ⟨W0, hW0⟩ : ∃ W0, (((w.alloc (.cells cx 30)).alloc (.cells cy 30)).alloc (.cells cr 36)).alloc (.cells cs 36) = W0 := ⟨_, rfl⟩
  have HF := Lib.hid (show Four w W0 cx cy cr cs from by rw [← hW0]; exact Four.start w cx cy cr cs)
  have HW0 := Lib.hid hW0
  have hsx := HC.sx
  have hsy := HC.sy
  have hsr := HC.sR
  have hss := HC.sS
  have HN := Lib.hid HC
  clear HC hW0
  go_enter Try.func3, Try.ntmps3
  go_upto_region 1 with fail
  rw [HW0.out]
  go_wp2_with (first
    | (refine wpList_load_rr rfl (.tmp 6) rfl rfl HF.out.r hsr ?_)
    | (refine wpList_load_rr rfl (.tmp 7) rfl rfl HF.out.s hss ?_)
    | (go_at_call 8; first | ((with_reducible refine (HN.out.lR _ (Below.keeps HF.out.below)).mono ?_); rintro e w1 ⟨rfl, hB⟩; have HF := Lib.hid (HF.out.keep hB); clear hB) | ((with_reducible refine (HN.out.lS _ (Below.keeps HF.out.below)).mono ?_); rintro e w2 ⟨rfl, hB⟩; have HF := Lib.hid (HF.out.keep hB); clear hB))
    | (go_at_call 9; (with_reducible refine (known9_w _).mono ?_); rintro e w9 ⟨rfl, hB⟩; have HFk := Lib.hid (HF.out.keep hB); clear hB))
  go_ret
  exact ⟨rfl, HFk.out.below⟩
set_option maxRecDepth 100000 in
set_option maxHeartbeats 6400000 in
theorem apart_00_w (w : World) (cx cy cr cs : Array Value) (ex ey er es : Int) (bx by' br bs : List UInt8) (sc sr : Bool) (hi : ex ≠ 0) (hj : er ≠ 0) (HC : ApC w cx cy cr cs false false ex ey er es bx by' br bs sc sr) :
    Calls Try.prog 3 #[.agg cx, .agg cy, .agg cr, .agg cs] w fun e w' => e = .returned (.bool true) ∧ Below w.heap.size w w' := by
  have d1 : (ex == 0) = false := by simp [hi]
  have d2 : (er != 0) = true := by simp [hj]
  have HI := Lib.hid hi
  have HJ := Lib.hid hj
  clear hi hj
  obtain ⟨W0, hW0⟩ : ∃ W0, (((w.alloc (.cells cx 30)).alloc (.cells cy 30)).alloc (.cells cr 36)).alloc (.cells cs 36) = W0 := ⟨_, rfl⟩
  have HF := Lib.hid (show Four w W0 cx cy cr cs from by rw [← hW0]; exact Four.start w cx cy cr cs)
  have HW0 := Lib.hid hW0
  have hsx := HC.sx
  have hsy := HC.sy
  have hsr := HC.sR
  have hss := HC.sS
  have HN := Lib.hid HC
  clear HC hW0
  go_enter Try.func3, Try.ntmps3
  go_upto_region 1 with fail
  rw [HW0.out]
  go_wp2_with (first
    | (refine wpList_load_rr rfl (.tmp 6) rfl rfl HF.out.r hsr ?_)
    | (refine wpList_load_rr rfl (.tmp 7) rfl rfl HF.out.s hss ?_)
    | (refine wpList_load_cc rfl (.tmp 4) rfl rfl HF.out.x hsx ?_)
    | (refine wpList_load_cc rfl (.tmp 5) rfl rfl HF.out.y hsy ?_)
    | (go_at_call 8; first | ((with_reducible refine (HN.out.lR _ (Below.keeps HF.out.below)).mono ?_); rintro e w1 ⟨rfl, hB⟩; have HF := Lib.hid (HF.out.keep hB); clear hB) | ((with_reducible refine (HN.out.lS _ (Below.keeps HF.out.below)).mono ?_); rintro e w2 ⟨rfl, hB⟩; have HF := Lib.hid (HF.out.keep hB); clear hB))
    | (go_at_call 10; first | ((with_reducible refine (HN.out.bX _).mono ?_); rintro e w3 ⟨⟨p1, n1, c1, rfl, hr⟩, hB⟩; have HF := Lib.hid (HF.out.keep hB); have HR1 := Lib.hid hr; clear hB hr) | ((with_reducible refine (HN.out.bY _).mono ?_); rintro e w4 ⟨⟨p2, n2, c2, rfl, hr⟩, hB⟩; have HF := Lib.hid (HF.out.keep hB); have HR1 := Lib.hid (HR1.out.keeps (Below.keeps hB)); have HR2 := Lib.hid hr; clear hB hr))
    | (go_at_call 11; first | ((with_reducible refine (HN.out.bR _ (Below.keeps HF.out.below)).mono ?_); rintro e w5 ⟨⟨p3, n3, c3, rfl, hr⟩, hB⟩; have HF := Lib.hid (HF.out.keep hB); have HR1 := Lib.hid (HR1.out.keeps (Below.keeps hB)); have HR2 := Lib.hid (HR2.out.keeps (Below.keeps hB)); have HR3 := Lib.hid hr; clear hB hr) | ((with_reducible refine (HN.out.bS _ (Below.keeps HF.out.below)).mono ?_); rintro e w6 ⟨⟨p4, n4, c4, rfl, hr⟩, hB⟩; have HF := Lib.hid (HF.out.keep hB); have HR1 := Lib.hid (HR1.out.keeps (Below.keeps hB)); have HR2 := Lib.hid (HR2.out.keeps (Below.keeps hB)); have HR3 := Lib.hid (HR3.out.keeps (Below.keeps hB)); have HR4 := Lib.hid hr; clear hB hr)))
  have HQ := Lib.hid (fun (W : World) (hR : RegT.Grow w6.drew W) => HF.out.keep ((Below.refl w6.heap.size w6).drew.trans hR))
  have HT1 := Lib.hid (fun (W : World) (hR : RegT.Grow w6.drew W) => HR1.out.keeps (Below.keeps ((Below.refl w6.heap.size w6).drew.trans hR)))
  have HT2 := Lib.hid (fun (W : World) (hR : RegT.Grow w6.drew W) => HR2.out.keeps (Below.keeps ((Below.refl w6.heap.size w6).drew.trans hR)))
  have HT3 := Lib.hid (fun (W : World) (hR : RegT.Grow w6.drew W) => HR3.out.keeps (Below.keeps ((Below.refl w6.heap.size w6).drew.trans hR)))
  have HT4 := Lib.hid (fun (W : World) (hR : RegT.Grow w6.drew W) => HR4.out.keeps (Below.keeps ((Below.refl w6.heap.size w6).drew.trans hR)))
  apply RegT.wp_region_T rfl 81 17 rfl (by kernel_rfl) RegT.Grow RegT.Grow.refl RegT.Grow.trans
  · apply RegT.T_pure rfl rfl rfl
    · intro W hR; clear hR; go_simp; rfl
    simp only [List.set_cons_succ, List.set_cons_zero, Nat.reduceAdd]
    apply RegT.T_pure (v := .bool false) rfl rfl rfl
    · intro W hR; clear hR; go_simp
    simp only [List.set_cons_succ, List.set_cons_zero, Nat.reduceAdd]
    apply RegT.T_pure (v := .bool false) rfl rfl rfl
    · intro W hR; clear hR; go_simp
    simp only [List.set_cons_succ, List.set_cons_zero, Nat.reduceAdd]
    apply RegT.T_skip rfl rfl rfl
    simp only [List.set_cons_succ, List.set_cons_zero, Nat.reduceAdd]
    apply RegT.T_skip rfl rfl rfl
    simp only [List.set_cons_succ, List.set_cons_zero, Nat.reduceAdd]
    apply RegT.T_pure (v := .bool false) rfl rfl rfl
    · intro W hR; clear hR; go_simp
    simp only [List.set_cons_succ, List.set_cons_zero, Nat.reduceAdd]
    apply RegT.T_pure (v := .bool false) rfl rfl rfl
    · intro W hR; clear hR; go_simp
    simp only [List.set_cons_succ, List.set_cons_zero, Nat.reduceAdd]
    apply RegT.T_skip rfl rfl rfl
    simp only [List.set_cons_succ, List.set_cons_zero, Nat.reduceAdd]
    apply RegT.T_skip rfl rfl rfl
    simp only [List.set_cons_succ, List.set_cons_zero, Nat.reduceAdd]
    apply RegT.T_skip rfl rfl rfl
    simp only [List.set_cons_succ, List.set_cons_zero, Nat.reduceAdd]
    apply RegT.T_skip rfl rfl rfl
    simp only [List.set_cons_succ, List.set_cons_zero, Nat.reduceAdd]
    apply RegT.T_skip rfl rfl rfl
    simp only [List.set_cons_succ, List.set_cons_zero, Nat.reduceAdd]
    apply RegT.T_skip rfl rfl rfl
    simp only [List.set_cons_succ, List.set_cons_zero, Nat.reduceAdd]
    apply RegT.T_skip rfl rfl rfl
    simp only [List.set_cons_succ, List.set_cons_zero, Nat.reduceAdd]
    apply RegT.T_skip rfl rfl rfl
    simp only [List.set_cons_succ, List.set_cons_zero, Nat.reduceAdd]
    apply RegT.T_skip rfl rfl rfl
    simp only [List.set_cons_succ, List.set_cons_zero, Nat.reduceAdd]
    apply RegT.T_pure (v := .bool false) rfl rfl rfl
    · intro W hR; clear hR; go_simp
    simp only [List.set_cons_succ, List.set_cons_zero, Nat.reduceAdd]
    refine RegT.T_end rfl (fun W7 hR hf => ?_)
    have HR1 := Lib.hid (HT1.out W7 hR)
    have HR2 := Lib.hid (HT2.out W7 hR)
    have HR3 := Lib.hid (HT3.out W7 hR)
    have HR4 := Lib.hid (HT4.out W7 hR)
    have HF := Lib.hid (HQ.out W7 hR)
    clear hR hf HQ HT1 HT2 HT3 HT4
    go_wp2
    have HQ := Lib.hid (fun (W : World) (hR : RegT.Grow W7.drew W) => HF.out.keep ((Below.refl W7.heap.size W7).drew.trans hR))
    have HT3 := Lib.hid (fun (W : World) (hR : RegT.Grow W7.drew W) => HR3.out.keeps (Below.keeps ((Below.refl W7.heap.size W7).drew.trans hR)))
    have HT4 := Lib.hid (fun (W : World) (hR : RegT.Grow W7.drew W) => HR4.out.keeps (Below.keeps ((Below.refl W7.heap.size W7).drew.trans hR)))
    apply RegT.wp_region_T rfl 81 21 rfl (by kernel_rfl) RegT.Grow RegT.Grow.refl RegT.Grow.trans
    · apply RegT.T_pure rfl rfl rfl
      · intro W hR; clear hR; go_simp; rfl
      simp only [List.set_cons_succ, List.set_cons_zero, Nat.reduceAdd]
      apply RegT.T_pure (v := .bool true) rfl rfl rfl
      · intro W hR; clear hR; go_simp
      simp only [List.set_cons_succ, List.set_cons_zero, Nat.reduceAdd]
      apply RegT.T_pure (v := .bool true) rfl rfl rfl
      · intro W hR; clear hR; go_simp
      simp only [List.set_cons_succ, List.set_cons_zero, Nat.reduceAdd]
      apply RegT.T_skip rfl rfl rfl
      simp only [List.set_cons_succ, List.set_cons_zero, Nat.reduceAdd]
      apply RegT.T_skip rfl rfl rfl
      simp only [List.set_cons_succ, List.set_cons_zero, Nat.reduceAdd]
      apply RegT.T_pure (v := .bool true) rfl rfl rfl
      · intro W hR; clear hR; go_simp
      simp only [List.set_cons_succ, List.set_cons_zero, Nat.reduceAdd]
      apply RegT.T_pure (v := .bool true) rfl rfl rfl
      · intro W hR; clear hR; go_simp
      simp only [List.set_cons_succ, List.set_cons_zero, Nat.reduceAdd]
      apply RegT.T_skip rfl rfl rfl
      simp only [List.set_cons_succ, List.set_cons_zero, Nat.reduceAdd]
      apply RegT.T_skip rfl rfl rfl
      simp only [List.set_cons_succ, List.set_cons_zero, Nat.reduceAdd]
      apply RegT.T_skip rfl rfl rfl
      simp only [List.set_cons_succ, List.set_cons_zero, Nat.reduceAdd]
      apply RegT.T_skip rfl rfl rfl
      simp only [List.set_cons_succ, List.set_cons_zero, Nat.reduceAdd]
      apply RegT.T_skip rfl rfl rfl
      simp only [List.set_cons_succ, List.set_cons_zero, Nat.reduceAdd]
      apply RegT.T_skip rfl rfl rfl
      simp only [List.set_cons_succ, List.set_cons_zero, Nat.reduceAdd]
      apply RegT.T_skip rfl rfl rfl
      simp only [List.set_cons_succ, List.set_cons_zero, Nat.reduceAdd]
      apply RegT.T_skip rfl rfl rfl
      simp only [List.set_cons_succ, List.set_cons_zero, Nat.reduceAdd]
      apply RegT.T_skip rfl rfl rfl
      simp only [List.set_cons_succ, List.set_cons_zero, Nat.reduceAdd]
      apply RegT.T_pure (v := .bool true) rfl rfl rfl
      · intro W hR; clear hR; go_simp
      simp only [List.set_cons_succ, List.set_cons_zero, Nat.reduceAdd]
      apply RegT.T_pure (v := .bool true) rfl rfl rfl
      · intro W hR; clear hR; go_simp
      simp only [List.set_cons_succ, List.set_cons_zero, Nat.reduceAdd]
      apply RegT.T_const rfl rfl rfl (.bool true) (fun _ _ h => h)
      · intro W hR hf
        have Hc := Lib.hid (known9_w W)
        clear hR hf
        go_simp
        exact RegT.OpOK_enter Hc.out (fun e w' h => ⟨_, h.1, rfl, h.2⟩)
      simp only [List.set_cons_succ, List.set_cons_zero, Nat.reduceAdd]
      apply RegT.T_pure (v := .bool true) rfl rfl rfl
      · intro W hR; clear hR; go_simp
      simp only [List.set_cons_succ, List.set_cons_zero, Nat.reduceAdd]
      apply RegT.T_pure rfl rfl rfl
      · intro W hR; clear hR; go_simp; rfl
      simp only [List.set_cons_succ, List.set_cons_zero, Nat.reduceAdd]
      refine RegT.T_end rfl (fun W9 hR hf => ?_)
      have HFz := Lib.hid (HQ.out W9 hR)
      clear hR hf HQ HT3 HT4
      go_wp2
      go_ret
      exact ⟨rfl, HFz.out.below⟩
    · rfl
    · kernel_rfl
  · rfl
  · kernel_rfl
set_option maxRecDepth 100000 in
set_option maxHeartbeats 6400000 in
theorem apart_01_w (w : World) (cx cy cr cs : Array Value) (ex ey er es : Int) (bx by' br bs : List UInt8) (sc sr : Bool) (hi : ex ≠ 0) (hj : es ≠ 0) (HC : ApC w cx cy cr cs false false ex ey 0 es bx by' br bs sc sr) :
    Calls Try.prog 3 #[.agg cx, .agg cy, .agg cr, .agg cs] w fun e w' => e = .returned (.bool true) ∧ Below w.heap.size w w' := by
  have d1 : (ex == 0) = false := by simp [hi]
  have d2 : (es != 0) = true := by simp [hj]
  have HI := Lib.hid hi
  have HJ := Lib.hid hj
  clear hi hj
  obtain ⟨W0, hW0⟩ : ∃ W0, (((w.alloc (.cells cx 30)).alloc (.cells cy 30)).alloc (.cells cr 36)).alloc (.cells cs 36) = W0 := ⟨_, rfl⟩
  have HF := Lib.hid (show Four w W0 cx cy cr cs from by rw [← hW0]; exact Four.start w cx cy cr cs)
  have HW0 := Lib.hid hW0
  have hsx := HC.sx
  have hsy := HC.sy
  have hsr := HC.sR
  have hss := HC.sS
  have HN := Lib.hid HC
  clear HC hW0
  go_enter Try.func3, Try.ntmps3
  go_upto_region 1 with fail
  rw [HW0.out]
  go_wp2_with (first
    | (refine wpList_load_rr rfl (.tmp 6) rfl rfl HF.out.r hsr ?_)
    | (refine wpList_load_rr rfl (.tmp 7) rfl rfl HF.out.s hss ?_)
    | (refine wpList_load_cc rfl (.tmp 4) rfl rfl HF.out.x hsx ?_)
    | (refine wpList_load_cc rfl (.tmp 5) rfl rfl HF.out.y hsy ?_)
    | (go_at_call 8; first | ((with_reducible refine (HN.out.lR _ (Below.keeps HF.out.below)).mono ?_); rintro e w1 ⟨rfl, hB⟩; have HF := Lib.hid (HF.out.keep hB); clear hB) | ((with_reducible refine (HN.out.lS _ (Below.keeps HF.out.below)).mono ?_); rintro e w2 ⟨rfl, hB⟩; have HF := Lib.hid (HF.out.keep hB); clear hB))
    | (go_at_call 10; first | ((with_reducible refine (HN.out.bX _).mono ?_); rintro e w3 ⟨⟨p1, n1, c1, rfl, hr⟩, hB⟩; have HF := Lib.hid (HF.out.keep hB); have HR1 := Lib.hid hr; clear hB hr) | ((with_reducible refine (HN.out.bY _).mono ?_); rintro e w4 ⟨⟨p2, n2, c2, rfl, hr⟩, hB⟩; have HF := Lib.hid (HF.out.keep hB); have HR1 := Lib.hid (HR1.out.keeps (Below.keeps hB)); have HR2 := Lib.hid hr; clear hB hr))
    | (go_at_call 11; first | ((with_reducible refine (HN.out.bR _ (Below.keeps HF.out.below)).mono ?_); rintro e w5 ⟨⟨p3, n3, c3, rfl, hr⟩, hB⟩; have HF := Lib.hid (HF.out.keep hB); have HR1 := Lib.hid (HR1.out.keeps (Below.keeps hB)); have HR2 := Lib.hid (HR2.out.keeps (Below.keeps hB)); have HR3 := Lib.hid hr; clear hB hr) | ((with_reducible refine (HN.out.bS _ (Below.keeps HF.out.below)).mono ?_); rintro e w6 ⟨⟨p4, n4, c4, rfl, hr⟩, hB⟩; have HF := Lib.hid (HF.out.keep hB); have HR1 := Lib.hid (HR1.out.keeps (Below.keeps hB)); have HR2 := Lib.hid (HR2.out.keeps (Below.keeps hB)); have HR3 := Lib.hid (HR3.out.keeps (Below.keeps hB)); have HR4 := Lib.hid hr; clear hB hr)))
  have HQ := Lib.hid (fun (W : World) (hR : RegT.Grow w6.drew W) => HF.out.keep ((Below.refl w6.heap.size w6).drew.trans hR))
  have HT1 := Lib.hid (fun (W : World) (hR : RegT.Grow w6.drew W) => HR1.out.keeps (Below.keeps ((Below.refl w6.heap.size w6).drew.trans hR)))
  have HT2 := Lib.hid (fun (W : World) (hR : RegT.Grow w6.drew W) => HR2.out.keeps (Below.keeps ((Below.refl w6.heap.size w6).drew.trans hR)))
  have HT3 := Lib.hid (fun (W : World) (hR : RegT.Grow w6.drew W) => HR3.out.keeps (Below.keeps ((Below.refl w6.heap.size w6).drew.trans hR)))
  have HT4 := Lib.hid (fun (W : World) (hR : RegT.Grow w6.drew W) => HR4.out.keeps (Below.keeps ((Below.refl w6.heap.size w6).drew.trans hR)))
  apply RegT.wp_region_T rfl 81 17 rfl (by kernel_rfl) RegT.Grow RegT.Grow.refl RegT.Grow.trans
  · apply RegT.T_pure rfl rfl rfl
    · intro W hR; clear hR; go_simp; rfl
    simp only [List.set_cons_succ, List.set_cons_zero, Nat.reduceAdd]
    apply RegT.T_pure (v := .bool false) rfl rfl rfl
    · intro W hR; clear hR; go_simp
    simp only [List.set_cons_succ, List.set_cons_zero, Nat.reduceAdd]
    apply RegT.T_pure (v := .bool false) rfl rfl rfl
    · intro W hR; clear hR; go_simp
    simp only [List.set_cons_succ, List.set_cons_zero, Nat.reduceAdd]
    apply RegT.T_skip rfl rfl rfl
    simp only [List.set_cons_succ, List.set_cons_zero, Nat.reduceAdd]
    apply RegT.T_skip rfl rfl rfl
    simp only [List.set_cons_succ, List.set_cons_zero, Nat.reduceAdd]
    apply RegT.T_pure (v := .bool false) rfl rfl rfl
    · intro W hR; clear hR; go_simp
    simp only [List.set_cons_succ, List.set_cons_zero, Nat.reduceAdd]
    apply RegT.T_pure (v := .bool false) rfl rfl rfl
    · intro W hR; clear hR; go_simp
    simp only [List.set_cons_succ, List.set_cons_zero, Nat.reduceAdd]
    apply RegT.T_skip rfl rfl rfl
    simp only [List.set_cons_succ, List.set_cons_zero, Nat.reduceAdd]
    apply RegT.T_skip rfl rfl rfl
    simp only [List.set_cons_succ, List.set_cons_zero, Nat.reduceAdd]
    apply RegT.T_skip rfl rfl rfl
    simp only [List.set_cons_succ, List.set_cons_zero, Nat.reduceAdd]
    apply RegT.T_skip rfl rfl rfl
    simp only [List.set_cons_succ, List.set_cons_zero, Nat.reduceAdd]
    apply RegT.T_skip rfl rfl rfl
    simp only [List.set_cons_succ, List.set_cons_zero, Nat.reduceAdd]
    apply RegT.T_skip rfl rfl rfl
    simp only [List.set_cons_succ, List.set_cons_zero, Nat.reduceAdd]
    apply RegT.T_skip rfl rfl rfl
    simp only [List.set_cons_succ, List.set_cons_zero, Nat.reduceAdd]
    apply RegT.T_skip rfl rfl rfl
    simp only [List.set_cons_succ, List.set_cons_zero, Nat.reduceAdd]
    apply RegT.T_skip rfl rfl rfl
    simp only [List.set_cons_succ, List.set_cons_zero, Nat.reduceAdd]
    apply RegT.T_pure (v := .bool false) rfl rfl rfl
    · intro W hR; clear hR; go_simp
    simp only [List.set_cons_succ, List.set_cons_zero, Nat.reduceAdd]
    refine RegT.T_end rfl (fun W7 hR hf => ?_)
    have HR1 := Lib.hid (HT1.out W7 hR)
    have HR2 := Lib.hid (HT2.out W7 hR)
    have HR3 := Lib.hid (HT3.out W7 hR)
    have HR4 := Lib.hid (HT4.out W7 hR)
    have HF := Lib.hid (HQ.out W7 hR)
    clear hR hf HQ HT1 HT2 HT3 HT4
    go_wp2
    have HQ := Lib.hid (fun (W : World) (hR : RegT.Grow W7.drew W) => HF.out.keep ((Below.refl W7.heap.size W7).drew.trans hR))
    have HT3 := Lib.hid (fun (W : World) (hR : RegT.Grow W7.drew W) => HR3.out.keeps (Below.keeps ((Below.refl W7.heap.size W7).drew.trans hR)))
    have HT4 := Lib.hid (fun (W : World) (hR : RegT.Grow W7.drew W) => HR4.out.keeps (Below.keeps ((Below.refl W7.heap.size W7).drew.trans hR)))
    apply RegT.wp_region_T rfl 81 21 rfl (by kernel_rfl) RegT.Grow RegT.Grow.refl RegT.Grow.trans
    · apply RegT.T_pure rfl rfl rfl
      · intro W hR; clear hR; go_simp; rfl
      simp only [List.set_cons_succ, List.set_cons_zero, Nat.reduceAdd]
      apply RegT.T_pure (v := .bool false) rfl rfl rfl
      · intro W hR; clear hR; go_simp
      simp only [List.set_cons_succ, List.set_cons_zero, Nat.reduceAdd]
      apply RegT.T_pure (v := .bool false) rfl rfl rfl
      · intro W hR; clear hR; go_simp
      simp only [List.set_cons_succ, List.set_cons_zero, Nat.reduceAdd]
      apply RegT.T_pure rfl rfl rfl
      · intro W hR; clear hR; go_simp; rfl
      simp only [List.set_cons_succ, List.set_cons_zero, Nat.reduceAdd]
      apply RegT.T_pure (v := .bool true) rfl rfl rfl
      · intro W hR; clear hR; go_simp
      simp only [List.set_cons_succ, List.set_cons_zero, Nat.reduceAdd]
      apply RegT.T_pure (v := .bool true) rfl rfl rfl
      · intro W hR; clear hR; go_simp
      simp only [List.set_cons_succ, List.set_cons_zero, Nat.reduceAdd]
      apply RegT.T_pure (v := .bool true) rfl rfl rfl
      · intro W hR; clear hR; go_simp
      simp only [List.set_cons_succ, List.set_cons_zero, Nat.reduceAdd]
      apply RegT.T_skip rfl rfl rfl
      simp only [List.set_cons_succ, List.set_cons_zero, Nat.reduceAdd]
      apply RegT.T_skip rfl rfl rfl
      simp only [List.set_cons_succ, List.set_cons_zero, Nat.reduceAdd]
      apply RegT.T_skip rfl rfl rfl
      simp only [List.set_cons_succ, List.set_cons_zero, Nat.reduceAdd]
      apply RegT.T_skip rfl rfl rfl
      simp only [List.set_cons_succ, List.set_cons_zero, Nat.reduceAdd]
      apply RegT.T_skip rfl rfl rfl
      simp only [List.set_cons_succ, List.set_cons_zero, Nat.reduceAdd]
      apply RegT.T_skip rfl rfl rfl
      simp only [List.set_cons_succ, List.set_cons_zero, Nat.reduceAdd]
      apply RegT.T_skip rfl rfl rfl
      simp only [List.set_cons_succ, List.set_cons_zero, Nat.reduceAdd]
      apply RegT.T_skip rfl rfl rfl
      simp only [List.set_cons_succ, List.set_cons_zero, Nat.reduceAdd]
      apply RegT.T_skip rfl rfl rfl
      simp only [List.set_cons_succ, List.set_cons_zero, Nat.reduceAdd]
      apply RegT.T_pure (v := .bool true) rfl rfl rfl
      · intro W hR; clear hR; go_simp
      simp only [List.set_cons_succ, List.set_cons_zero, Nat.reduceAdd]
      apply RegT.T_pure (v := .bool true) rfl rfl rfl
      · intro W hR; clear hR; go_simp
      simp only [List.set_cons_succ, List.set_cons_zero, Nat.reduceAdd]
      apply RegT.T_const rfl rfl rfl (.bool true) (fun _ _ h => h)
      · intro W hR hf
        have Hc := Lib.hid (known9_w W)
        clear hR hf
        go_simp
        exact RegT.OpOK_enter Hc.out (fun e w' h => ⟨_, h.1, rfl, h.2⟩)
      simp only [List.set_cons_succ, List.set_cons_zero, Nat.reduceAdd]
      apply RegT.T_pure (v := .bool true) rfl rfl rfl
      · intro W hR; clear hR; go_simp
      simp only [List.set_cons_succ, List.set_cons_zero, Nat.reduceAdd]
      apply RegT.T_pure rfl rfl rfl
      · intro W hR; clear hR; go_simp; rfl
      simp only [List.set_cons_succ, List.set_cons_zero, Nat.reduceAdd]
      refine RegT.T_end rfl (fun W9 hR hf => ?_)
      have HFz := Lib.hid (HQ.out W9 hR)
      clear hR hf HQ HT3 HT4
      go_wp2
      go_ret
      exact ⟨rfl, HFz.out.below⟩
    · rfl
    · kernel_rfl
  · rfl
  · kernel_rfl
set_option maxRecDepth 100000 in
set_option maxHeartbeats 6400000 in
theorem apart_02_w (w : World) (cx cy cr cs : Array Value) (ex ey er es : Int) (bx by' br bs : List UInt8) (sc sr : Bool) (hi : ex ≠ 0) (hj : br = bs) (HC : ApC w cx cy cr cs false false ex ey 0 0 bx by' br bs sc true) :
    Calls Try.prog 3 #[.agg cx, .agg cy, .agg cr, .agg cs] w fun e w' => e = .returned (.bool true) ∧ Below w.heap.size w w' := by
  have d1 : (ex == 0) = false := by simp [hi]
  have HI := Lib.hid hi
  have HJ := Lib.hid hj
  clear hi hj
  obtain ⟨W0, hW0⟩ : ∃ W0, (((w.alloc (.cells cx 30)).alloc (.cells cy 30)).alloc (.cells cr 36)).alloc (.cells cs 36) = W0 := ⟨_, rfl⟩
  have HF := Lib.hid (show Four w W0 cx cy cr cs from by rw [← hW0]; exact Four.start w cx cy cr cs)
  have HW0 := Lib.hid hW0
  have hsx := HC.sx
  have hsy := HC.sy
  have hsr := HC.sR
  have hss := HC.sS
  have HN := Lib.hid HC
  clear HC hW0
  go_enter Try.func3, Try.ntmps3
  go_upto_region 1 with fail
  rw [HW0.out]
  go_wp2_with (first
    | (refine wpList_load_rr rfl (.tmp 6) rfl rfl HF.out.r hsr ?_)
    | (refine wpList_load_rr rfl (.tmp 7) rfl rfl HF.out.s hss ?_)
    | (refine wpList_load_cc rfl (.tmp 4) rfl rfl HF.out.x hsx ?_)
    | (refine wpList_load_cc rfl (.tmp 5) rfl rfl HF.out.y hsy ?_)
    | (go_at_call 8; first | ((with_reducible refine (HN.out.lR _ (Below.keeps HF.out.below)).mono ?_); rintro e w1 ⟨rfl, hB⟩; have HF := Lib.hid (HF.out.keep hB); clear hB) | ((with_reducible refine (HN.out.lS _ (Below.keeps HF.out.below)).mono ?_); rintro e w2 ⟨rfl, hB⟩; have HF := Lib.hid (HF.out.keep hB); clear hB))
    | (go_at_call 10; first | ((with_reducible refine (HN.out.bX _).mono ?_); rintro e w3 ⟨⟨p1, n1, c1, rfl, hr⟩, hB⟩; have HF := Lib.hid (HF.out.keep hB); have HR1 := Lib.hid hr; clear hB hr) | ((with_reducible refine (HN.out.bY _).mono ?_); rintro e w4 ⟨⟨p2, n2, c2, rfl, hr⟩, hB⟩; have HF := Lib.hid (HF.out.keep hB); have HR1 := Lib.hid (HR1.out.keeps (Below.keeps hB)); have HR2 := Lib.hid hr; clear hB hr))
    | (go_at_call 11; first | ((with_reducible refine (HN.out.bR _ (Below.keeps HF.out.below)).mono ?_); rintro e w5 ⟨⟨p3, n3, c3, rfl, hr⟩, hB⟩; have HF := Lib.hid (HF.out.keep hB); have HR1 := Lib.hid (HR1.out.keeps (Below.keeps hB)); have HR2 := Lib.hid (HR2.out.keeps (Below.keeps hB)); have HR3 := Lib.hid hr; clear hB hr) | ((with_reducible refine (HN.out.bS _ (Below.keeps HF.out.below)).mono ?_); rintro e w6 ⟨⟨p4, n4, c4, rfl, hr⟩, hB⟩; have HF := Lib.hid (HF.out.keep hB); have HR1 := Lib.hid (HR1.out.keeps (Below.keeps hB)); have HR2 := Lib.hid (HR2.out.keeps (Below.keeps hB)); have HR3 := Lib.hid (HR3.out.keeps (Below.keeps hB)); have HR4 := Lib.hid hr; clear hB hr)))
  have HQ := Lib.hid (fun (W : World) (hR : RegT.Grow w6.drew W) => HF.out.keep ((Below.refl w6.heap.size w6).drew.trans hR))
  have HT1 := Lib.hid (fun (W : World) (hR : RegT.Grow w6.drew W) => HR1.out.keeps (Below.keeps ((Below.refl w6.heap.size w6).drew.trans hR)))
  have HT2 := Lib.hid (fun (W : World) (hR : RegT.Grow w6.drew W) => HR2.out.keeps (Below.keeps ((Below.refl w6.heap.size w6).drew.trans hR)))
  have HT3 := Lib.hid (fun (W : World) (hR : RegT.Grow w6.drew W) => HR3.out.keeps (Below.keeps ((Below.refl w6.heap.size w6).drew.trans hR)))
  have HT4 := Lib.hid (fun (W : World) (hR : RegT.Grow w6.drew W) => HR4.out.keeps (Below.keeps ((Below.refl w6.heap.size w6).drew.trans hR)))
  apply RegT.wp_region_T rfl 81 17 rfl (by kernel_rfl) RegT.Grow RegT.Grow.refl RegT.Grow.trans
  · apply RegT.T_pure rfl rfl rfl
    · intro W hR; clear hR; go_simp; rfl
    simp only [List.set_cons_succ, List.set_cons_zero, Nat.reduceAdd]
    apply RegT.T_pure (v := .bool false) rfl rfl rfl
    · intro W hR; clear hR; go_simp
    simp only [List.set_cons_succ, List.set_cons_zero, Nat.reduceAdd]
    apply RegT.T_pure (v := .bool false) rfl rfl rfl
    · intro W hR; clear hR; go_simp
    simp only [List.set_cons_succ, List.set_cons_zero, Nat.reduceAdd]
    apply RegT.T_skip rfl rfl rfl
    simp only [List.set_cons_succ, List.set_cons_zero, Nat.reduceAdd]
    apply RegT.T_skip rfl rfl rfl
    simp only [List.set_cons_succ, List.set_cons_zero, Nat.reduceAdd]
    apply RegT.T_pure (v := .bool false) rfl rfl rfl
    · intro W hR; clear hR; go_simp
    simp only [List.set_cons_succ, List.set_cons_zero, Nat.reduceAdd]
    apply RegT.T_pure (v := .bool false) rfl rfl rfl
    · intro W hR; clear hR; go_simp
    simp only [List.set_cons_succ, List.set_cons_zero, Nat.reduceAdd]
    apply RegT.T_skip rfl rfl rfl
    simp only [List.set_cons_succ, List.set_cons_zero, Nat.reduceAdd]
    apply RegT.T_skip rfl rfl rfl
    simp only [List.set_cons_succ, List.set_cons_zero, Nat.reduceAdd]
    apply RegT.T_skip rfl rfl rfl
    simp only [List.set_cons_succ, List.set_cons_zero, Nat.reduceAdd]
    apply RegT.T_skip rfl rfl rfl
    simp only [List.set_cons_succ, List.set_cons_zero, Nat.reduceAdd]
    apply RegT.T_skip rfl rfl rfl
    simp only [List.set_cons_succ, List.set_cons_zero, Nat.reduceAdd]
    apply RegT.T_skip rfl rfl rfl
    simp only [List.set_cons_succ, List.set_cons_zero, Nat.reduceAdd]
    apply RegT.T_skip rfl rfl rfl
    simp only [List.set_cons_succ, List.set_cons_zero, Nat.reduceAdd]
    apply RegT.T_skip rfl rfl rfl
    simp only [List.set_cons_succ, List.set_cons_zero, Nat.reduceAdd]
    apply RegT.T_skip rfl rfl rfl
    simp only [List.set_cons_succ, List.set_cons_zero, Nat.reduceAdd]
    apply RegT.T_pure (v := .bool false) rfl rfl rfl
    · intro W hR; clear hR; go_simp
    simp only [List.set_cons_succ, List.set_cons_zero, Nat.reduceAdd]
    refine RegT.T_end rfl (fun W7 hR hf => ?_)
    have HR1 := Lib.hid (HT1.out W7 hR)
    have HR2 := Lib.hid (HT2.out W7 hR)
    have HR3 := Lib.hid (HT3.out W7 hR)
    have HR4 := Lib.hid (HT4.out W7 hR)
    have HF := Lib.hid (HQ.out W7 hR)
    clear hR hf HQ HT1 HT2 HT3 HT4
    go_wp2
    have HQ := Lib.hid (fun (W : World) (hR : RegT.Grow W7.drew W) => HF.out.keep ((Below.refl W7.heap.size W7).drew.trans hR))
    have HT3 := Lib.hid (fun (W : World) (hR : RegT.Grow W7.drew W) => HR3.out.keeps (Below.keeps ((Below.refl W7.heap.size W7).drew.trans hR)))
    have HT4 := Lib.hid (fun (W : World) (hR : RegT.Grow W7.drew W) => HR4.out.keeps (Below.keeps ((Below.refl W7.heap.size W7).drew.trans hR)))
    apply RegT.wp_region_T rfl 81 21 rfl (by kernel_rfl) RegT.Grow RegT.Grow.refl RegT.Grow.trans
    · apply RegT.T_pure rfl rfl rfl
      · intro W hR; clear hR; go_simp; rfl
      simp only [List.set_cons_succ, List.set_cons_zero, Nat.reduceAdd]
      apply RegT.T_pure (v := .bool false) rfl rfl rfl
      · intro W hR; clear hR; go_simp
      simp only [List.set_cons_succ, List.set_cons_zero, Nat.reduceAdd]
      apply RegT.T_pure (v := .bool false) rfl rfl rfl
      · intro W hR; clear hR; go_simp
      simp only [List.set_cons_succ, List.set_cons_zero, Nat.reduceAdd]
      apply RegT.T_pure rfl rfl rfl
      · intro W hR; clear hR; go_simp; rfl
      simp only [List.set_cons_succ, List.set_cons_zero, Nat.reduceAdd]
      apply RegT.T_pure (v := .bool false) rfl rfl rfl
      · intro W hR; clear hR; go_simp
      simp only [List.set_cons_succ, List.set_cons_zero, Nat.reduceAdd]
      apply RegT.T_pure (v := .bool false) rfl rfl rfl
      · intro W hR; clear hR; go_simp
      simp only [List.set_cons_succ, List.set_cons_zero, Nat.reduceAdd]
      apply RegT.T_pure (v := .bool false) rfl rfl rfl
      · intro W hR; clear hR; go_simp
      simp only [List.set_cons_succ, List.set_cons_zero, Nat.reduceAdd]
      apply RegT.T_pure rfl rfl rfl
      · intro W hR; clear hR; go_simp; rfl
      simp only [List.set_cons_succ, List.set_cons_zero, Nat.reduceAdd]
      apply RegT.T_pure (v := .string ⟨br.toArray⟩) rfl rfl rfl
      · intro W hR
        have hc := run_convert_str (P := Try.prog) (HT3.out W hR) 39 5 9 Try.underlying39 Try.underlying5 Try.underlying9
        clear hR
        go_simp
      simp only [List.set_cons_succ, List.set_cons_zero, Nat.reduceAdd]
      apply RegT.T_pure rfl rfl rfl
      · intro W hR; clear hR; go_simp; rfl
      simp only [List.set_cons_succ, List.set_cons_zero, Nat.reduceAdd]
      apply RegT.T_pure (v := .string ⟨bs.toArray⟩) rfl rfl rfl
      · intro W hR
        have hc := run_convert_str (P := Try.prog) (HT4.out W hR) 39 5 9 Try.underlying39 Try.underlying5 Try.underlying9
        clear hR
        go_simp
      simp only [List.set_cons_succ, List.set_cons_zero, Nat.reduceAdd]
      apply RegT.T_pure (v := .bool true) rfl rfl rfl
      · intro W hR; clear hR; (go_simp; exact HJ.out)
      simp only [List.set_cons_succ, List.set_cons_zero, Nat.reduceAdd]
      apply RegT.T_pure rfl rfl rfl
      · exact fun W hR => load_rr (.tmp 6) rfl rfl (HQ.out W hR).r hsr
      simp only [List.set_cons_succ, List.set_cons_zero, Nat.reduceAdd]
      apply RegT.T_pure rfl rfl rfl
      · exact fun W hR => load_rr (.tmp 7) rfl rfl (HQ.out W hR).s hss
      simp only [List.set_cons_succ, List.set_cons_zero, Nat.reduceAdd]
      apply RegT.T_const rfl rfl rfl (.bool true) (fun _ _ h => h)
      · intro W hR hf
        have Hc := Lib.hid (HN.out.sm W (Below.keeps (HQ.out W hR).below))
        clear hR hf
        go_simp
        exact RegT.OpOK_enter Hc.out (fun e w' h => ⟨_, h.1, rfl, h.2⟩)
      simp only [List.set_cons_succ, List.set_cons_zero, Nat.reduceAdd]
      apply RegT.T_pure (v := .bool true) rfl rfl rfl
      · intro W hR; clear hR; go_simp
      simp only [List.set_cons_succ, List.set_cons_zero, Nat.reduceAdd]
      apply RegT.T_pure (v := .bool true) rfl rfl rfl
      · intro W hR; clear hR; go_simp
      simp only [List.set_cons_succ, List.set_cons_zero, Nat.reduceAdd]
      apply RegT.T_pure (v := .bool true) rfl rfl rfl
      · intro W hR; clear hR; go_simp
      simp only [List.set_cons_succ, List.set_cons_zero, Nat.reduceAdd]
      apply RegT.T_const rfl rfl rfl (.bool true) (fun _ _ h => h)
      · intro W hR hf
        have Hc := Lib.hid (known9_w W)
        clear hR hf
        go_simp
        exact RegT.OpOK_enter Hc.out (fun e w' h => ⟨_, h.1, rfl, h.2⟩)
      simp only [List.set_cons_succ, List.set_cons_zero, Nat.reduceAdd]
      apply RegT.T_pure (v := .bool true) rfl rfl rfl
      · intro W hR; clear hR; go_simp
      simp only [List.set_cons_succ, List.set_cons_zero, Nat.reduceAdd]
      apply RegT.T_pure rfl rfl rfl
      · intro W hR; clear hR; go_simp; rfl
      simp only [List.set_cons_succ, List.set_cons_zero, Nat.reduceAdd]
      refine RegT.T_end rfl (fun W9 hR hf => ?_)
      have HFz := Lib.hid (HQ.out W9 hR)
      clear hR hf HQ HT3 HT4
      go_wp2
      go_ret
      exact ⟨rfl, HFz.out.below⟩
    · rfl
    · kernel_rfl
  · rfl
  · kernel_rfl
set_option maxRecDepth 100000 in
set_option maxHeartbeats 6400000 in
theorem apart_03_w (w : World) (cx cy cr cs : Array Value) (ex ey er es : Int) (bx by' br bs : List UInt8) (sc sr : Bool) (hi : ex ≠ 0) (hj : br ≠ bs) (HC : ApC w cx cy cr cs false false ex ey 0 0 bx by' br bs sc false) :
    Calls Try.prog 3 #[.agg cx, .agg cy, .agg cr, .agg cs] w fun e w' => e = .returned (.bool true) ∧ Below w.heap.size w w' := by
  have d1 : (ex == 0) = false := by simp [hi]
  have HI := Lib.hid hi
  have HJ := Lib.hid hj
  clear hi hj
  obtain ⟨W0, hW0⟩ : ∃ W0, (((w.alloc (.cells cx 30)).alloc (.cells cy 30)).alloc (.cells cr 36)).alloc (.cells cs 36) = W0 := ⟨_, rfl⟩
  have HF := Lib.hid (show Four w W0 cx cy cr cs from by rw [← hW0]; exact Four.start w cx cy cr cs)
  have HW0 := Lib.hid hW0
  have hsx := HC.sx
  have hsy := HC.sy
  have hsr := HC.sR
  have hss := HC.sS
  have HN := Lib.hid HC
  clear HC hW0
  go_enter Try.func3, Try.ntmps3
  go_upto_region 1 with fail
  rw [HW0.out]
  go_wp2_with (first
    | (refine wpList_load_rr rfl (.tmp 6) rfl rfl HF.out.r hsr ?_)
    | (refine wpList_load_rr rfl (.tmp 7) rfl rfl HF.out.s hss ?_)
    | (refine wpList_load_cc rfl (.tmp 4) rfl rfl HF.out.x hsx ?_)
    | (refine wpList_load_cc rfl (.tmp 5) rfl rfl HF.out.y hsy ?_)
    | (go_at_call 8; first | ((with_reducible refine (HN.out.lR _ (Below.keeps HF.out.below)).mono ?_); rintro e w1 ⟨rfl, hB⟩; have HF := Lib.hid (HF.out.keep hB); clear hB) | ((with_reducible refine (HN.out.lS _ (Below.keeps HF.out.below)).mono ?_); rintro e w2 ⟨rfl, hB⟩; have HF := Lib.hid (HF.out.keep hB); clear hB))
    | (go_at_call 10; first | ((with_reducible refine (HN.out.bX _).mono ?_); rintro e w3 ⟨⟨p1, n1, c1, rfl, hr⟩, hB⟩; have HF := Lib.hid (HF.out.keep hB); have HR1 := Lib.hid hr; clear hB hr) | ((with_reducible refine (HN.out.bY _).mono ?_); rintro e w4 ⟨⟨p2, n2, c2, rfl, hr⟩, hB⟩; have HF := Lib.hid (HF.out.keep hB); have HR1 := Lib.hid (HR1.out.keeps (Below.keeps hB)); have HR2 := Lib.hid hr; clear hB hr))
    | (go_at_call 11; first | ((with_reducible refine (HN.out.bR _ (Below.keeps HF.out.below)).mono ?_); rintro e w5 ⟨⟨p3, n3, c3, rfl, hr⟩, hB⟩; have HF := Lib.hid (HF.out.keep hB); have HR1 := Lib.hid (HR1.out.keeps (Below.keeps hB)); have HR2 := Lib.hid (HR2.out.keeps (Below.keeps hB)); have HR3 := Lib.hid hr; clear hB hr) | ((with_reducible refine (HN.out.bS _ (Below.keeps HF.out.below)).mono ?_); rintro e w6 ⟨⟨p4, n4, c4, rfl, hr⟩, hB⟩; have HF := Lib.hid (HF.out.keep hB); have HR1 := Lib.hid (HR1.out.keeps (Below.keeps hB)); have HR2 := Lib.hid (HR2.out.keeps (Below.keeps hB)); have HR3 := Lib.hid (HR3.out.keeps (Below.keeps hB)); have HR4 := Lib.hid hr; clear hB hr)))
  have HQ := Lib.hid (fun (W : World) (hR : RegT.Grow w6.drew W) => HF.out.keep ((Below.refl w6.heap.size w6).drew.trans hR))
  have HT1 := Lib.hid (fun (W : World) (hR : RegT.Grow w6.drew W) => HR1.out.keeps (Below.keeps ((Below.refl w6.heap.size w6).drew.trans hR)))
  have HT2 := Lib.hid (fun (W : World) (hR : RegT.Grow w6.drew W) => HR2.out.keeps (Below.keeps ((Below.refl w6.heap.size w6).drew.trans hR)))
  have HT3 := Lib.hid (fun (W : World) (hR : RegT.Grow w6.drew W) => HR3.out.keeps (Below.keeps ((Below.refl w6.heap.size w6).drew.trans hR)))
  have HT4 := Lib.hid (fun (W : World) (hR : RegT.Grow w6.drew W) => HR4.out.keeps (Below.keeps ((Below.refl w6.heap.size w6).drew.trans hR)))
  apply RegT.wp_region_T rfl 81 17 rfl (by kernel_rfl) RegT.Grow RegT.Grow.refl RegT.Grow.trans
  · apply RegT.T_pure rfl rfl rfl
    · intro W hR; clear hR; go_simp; rfl
    simp only [List.set_cons_succ, List.set_cons_zero, Nat.reduceAdd]
    apply RegT.T_pure (v := .bool false) rfl rfl rfl
    · intro W hR; clear hR; go_simp
    simp only [List.set_cons_succ, List.set_cons_zero, Nat.reduceAdd]
    apply RegT.T_pure (v := .bool false) rfl rfl rfl
    · intro W hR; clear hR; go_simp
    simp only [List.set_cons_succ, List.set_cons_zero, Nat.reduceAdd]
    apply RegT.T_skip rfl rfl rfl
    simp only [List.set_cons_succ, List.set_cons_zero, Nat.reduceAdd]
    apply RegT.T_skip rfl rfl rfl
    simp only [List.set_cons_succ, List.set_cons_zero, Nat.reduceAdd]
    apply RegT.T_pure (v := .bool false) rfl rfl rfl
    · intro W hR; clear hR; go_simp
    simp only [List.set_cons_succ, List.set_cons_zero, Nat.reduceAdd]
    apply RegT.T_pure (v := .bool false) rfl rfl rfl
    · intro W hR; clear hR; go_simp
    simp only [List.set_cons_succ, List.set_cons_zero, Nat.reduceAdd]
    apply RegT.T_skip rfl rfl rfl
    simp only [List.set_cons_succ, List.set_cons_zero, Nat.reduceAdd]
    apply RegT.T_skip rfl rfl rfl
    simp only [List.set_cons_succ, List.set_cons_zero, Nat.reduceAdd]
    apply RegT.T_skip rfl rfl rfl
    simp only [List.set_cons_succ, List.set_cons_zero, Nat.reduceAdd]
    apply RegT.T_skip rfl rfl rfl
    simp only [List.set_cons_succ, List.set_cons_zero, Nat.reduceAdd]
    apply RegT.T_skip rfl rfl rfl
    simp only [List.set_cons_succ, List.set_cons_zero, Nat.reduceAdd]
    apply RegT.T_skip rfl rfl rfl
    simp only [List.set_cons_succ, List.set_cons_zero, Nat.reduceAdd]
    apply RegT.T_skip rfl rfl rfl
    simp only [List.set_cons_succ, List.set_cons_zero, Nat.reduceAdd]
    apply RegT.T_skip rfl rfl rfl
    simp only [List.set_cons_succ, List.set_cons_zero, Nat.reduceAdd]
    apply RegT.T_skip rfl rfl rfl
    simp only [List.set_cons_succ, List.set_cons_zero, Nat.reduceAdd]
    apply RegT.T_pure (v := .bool false) rfl rfl rfl
    · intro W hR; clear hR; go_simp
    simp only [List.set_cons_succ, List.set_cons_zero, Nat.reduceAdd]
    refine RegT.T_end rfl (fun W7 hR hf => ?_)
    have HR1 := Lib.hid (HT1.out W7 hR)
    have HR2 := Lib.hid (HT2.out W7 hR)
    have HR3 := Lib.hid (HT3.out W7 hR)
    have HR4 := Lib.hid (HT4.out W7 hR)
    have HF := Lib.hid (HQ.out W7 hR)
    clear hR hf HQ HT1 HT2 HT3 HT4
    go_wp2
    have HQ := Lib.hid (fun (W : World) (hR : RegT.Grow W7.drew W) => HF.out.keep ((Below.refl W7.heap.size W7).drew.trans hR))
    have HT3 := Lib.hid (fun (W : World) (hR : RegT.Grow W7.drew W) => HR3.out.keeps (Below.keeps ((Below.refl W7.heap.size W7).drew.trans hR)))
    have HT4 := Lib.hid (fun (W : World) (hR : RegT.Grow W7.drew W) => HR4.out.keeps (Below.keeps ((Below.refl W7.heap.size W7).drew.trans hR)))
    apply RegT.wp_region_T rfl 81 21 rfl (by kernel_rfl) RegT.Grow RegT.Grow.refl RegT.Grow.trans
    · apply RegT.T_pure rfl rfl rfl
      · intro W hR; clear hR; go_simp; rfl
      simp only [List.set_cons_succ, List.set_cons_zero, Nat.reduceAdd]
      apply RegT.T_pure (v := .bool false) rfl rfl rfl
      · intro W hR; clear hR; go_simp
      simp only [List.set_cons_succ, List.set_cons_zero, Nat.reduceAdd]
      apply RegT.T_pure (v := .bool false) rfl rfl rfl
      · intro W hR; clear hR; go_simp
      simp only [List.set_cons_succ, List.set_cons_zero, Nat.reduceAdd]
      apply RegT.T_pure rfl rfl rfl
      · intro W hR; clear hR; go_simp; rfl
      simp only [List.set_cons_succ, List.set_cons_zero, Nat.reduceAdd]
      apply RegT.T_pure (v := .bool false) rfl rfl rfl
      · intro W hR; clear hR; go_simp
      simp only [List.set_cons_succ, List.set_cons_zero, Nat.reduceAdd]
      apply RegT.T_pure (v := .bool false) rfl rfl rfl
      · intro W hR; clear hR; go_simp
      simp only [List.set_cons_succ, List.set_cons_zero, Nat.reduceAdd]
      apply RegT.T_pure (v := .bool false) rfl rfl rfl
      · intro W hR; clear hR; go_simp
      simp only [List.set_cons_succ, List.set_cons_zero, Nat.reduceAdd]
      apply RegT.T_pure rfl rfl rfl
      · intro W hR; clear hR; go_simp; rfl
      simp only [List.set_cons_succ, List.set_cons_zero, Nat.reduceAdd]
      apply RegT.T_pure (v := .string ⟨br.toArray⟩) rfl rfl rfl
      · intro W hR
        have hc := run_convert_str (P := Try.prog) (HT3.out W hR) 39 5 9 Try.underlying39 Try.underlying5 Try.underlying9
        clear hR
        go_simp
      simp only [List.set_cons_succ, List.set_cons_zero, Nat.reduceAdd]
      apply RegT.T_pure rfl rfl rfl
      · intro W hR; clear hR; go_simp; rfl
      simp only [List.set_cons_succ, List.set_cons_zero, Nat.reduceAdd]
      apply RegT.T_pure (v := .string ⟨bs.toArray⟩) rfl rfl rfl
      · intro W hR
        have hc := run_convert_str (P := Try.prog) (HT4.out W hR) 39 5 9 Try.underlying39 Try.underlying5 Try.underlying9
        clear hR
        go_simp
      simp only [List.set_cons_succ, List.set_cons_zero, Nat.reduceAdd]
      apply RegT.T_pure (v := .bool false) rfl rfl rfl
      · intro W hR; clear hR; (go_simp; exact HJ.out)
      simp only [List.set_cons_succ, List.set_cons_zero, Nat.reduceAdd]
      apply RegT.T_pure rfl rfl rfl
      · exact fun W hR => load_rr (.tmp 6) rfl rfl (HQ.out W hR).r hsr
      simp only [List.set_cons_succ, List.set_cons_zero, Nat.reduceAdd]
      apply RegT.T_pure rfl rfl rfl
      · exact fun W hR => load_rr (.tmp 7) rfl rfl (HQ.out W hR).s hss
      simp only [List.set_cons_succ, List.set_cons_zero, Nat.reduceAdd]
      apply RegT.T_const rfl rfl rfl (.bool false) (fun _ _ h => h)
      · intro W hR hf
        have Hc := Lib.hid (HN.out.sm W (Below.keeps (HQ.out W hR).below))
        clear hR hf
        go_simp
        exact RegT.OpOK_enter Hc.out (fun e w' h => ⟨_, h.1, rfl, h.2⟩)
      simp only [List.set_cons_succ, List.set_cons_zero, Nat.reduceAdd]
      apply RegT.T_pure (v := .bool true) rfl rfl rfl
      · intro W hR; clear hR; go_simp
      simp only [List.set_cons_succ, List.set_cons_zero, Nat.reduceAdd]
      apply RegT.T_pure (v := .bool true) rfl rfl rfl
      · intro W hR; clear hR; go_simp
      simp only [List.set_cons_succ, List.set_cons_zero, Nat.reduceAdd]
      apply RegT.T_pure (v := .bool true) rfl rfl rfl
      · intro W hR; clear hR; go_simp
      simp only [List.set_cons_succ, List.set_cons_zero, Nat.reduceAdd]
      apply RegT.T_const rfl rfl rfl (.bool true) (fun _ _ h => h)
      · intro W hR hf
        have Hc := Lib.hid (known9_w W)
        clear hR hf
        go_simp
        exact RegT.OpOK_enter Hc.out (fun e w' h => ⟨_, h.1, rfl, h.2⟩)
      simp only [List.set_cons_succ, List.set_cons_zero, Nat.reduceAdd]
      apply RegT.T_pure (v := .bool true) rfl rfl rfl
      · intro W hR; clear hR; go_simp
      simp only [List.set_cons_succ, List.set_cons_zero, Nat.reduceAdd]
      apply RegT.T_pure rfl rfl rfl
      · intro W hR; clear hR; go_simp; rfl
      simp only [List.set_cons_succ, List.set_cons_zero, Nat.reduceAdd]
      refine RegT.T_end rfl (fun W9 hR hf => ?_)
      have HFz := Lib.hid (HQ.out W9 hR)
      clear hR hf HQ HT3 HT4
      go_wp2
      go_ret
      exact ⟨rfl, HFz.out.below⟩
    · rfl
    · kernel_rfl
  · rfl
  · kernel_rfl
set_option maxRecDepth 100000 in
set_option maxHeartbeats 6400000 in
theorem apart_10_w (w : World) (cx cy cr cs : Array Value) (ex ey er es : Int) (bx by' br bs : List UInt8) (sc sr : Bool) (hi : ey ≠ 0) (hj : er ≠ 0) (HC : ApC w cx cy cr cs false false 0 ey er es bx by' br bs sc sr) :
    Calls Try.prog 3 #[.agg cx, .agg cy, .agg cr, .agg cs] w fun e w' => e = .returned (.bool true) ∧ Below w.heap.size w w' := by
  have d1 : (ey == 0) = false := by simp [hi]
  have d2 : (er != 0) = true := by simp [hj]
  have HI := Lib.hid hi
  have HJ := Lib.hid hj
  clear hi hj
  obtain ⟨W0, hW0⟩ : ∃ W0, (((w.alloc (.cells cx 30)).alloc (.cells cy 30)).alloc (.cells cr 36)).alloc (.cells cs 36) = W0 := ⟨_, rfl⟩
  have HF := Lib.hid (show Four w W0 cx cy cr cs from by rw [← hW0]; exact Four.start w cx cy cr cs)
  have HW0 := Lib.hid hW0
  have hsx := HC.sx
  have hsy := HC.sy
  have hsr := HC.sR
  have hss := HC.sS
  have HN := Lib.hid HC
  clear HC hW0
  go_enter Try.func3, Try.ntmps3
  go_upto_region 1 with fail
  rw [HW0.out]
  go_wp2_with (first
    | (refine wpList_load_rr rfl (.tmp 6) rfl rfl HF.out.r hsr ?_)
    | (refine wpList_load_rr rfl (.tmp 7) rfl rfl HF.out.s hss ?_)
    | (refine wpList_load_cc rfl (.tmp 4) rfl rfl HF.out.x hsx ?_)
    | (refine wpList_load_cc rfl (.tmp 5) rfl rfl HF.out.y hsy ?_)
    | (go_at_call 8; first | ((with_reducible refine (HN.out.lR _ (Below.keeps HF.out.below)).mono ?_); rintro e w1 ⟨rfl, hB⟩; have HF := Lib.hid (HF.out.keep hB); clear hB) | ((with_reducible refine (HN.out.lS _ (Below.keeps HF.out.below)).mono ?_); rintro e w2 ⟨rfl, hB⟩; have HF := Lib.hid (HF.out.keep hB); clear hB))
    | (go_at_call 10; first | ((with_reducible refine (HN.out.bX _).mono ?_); rintro e w3 ⟨⟨p1, n1, c1, rfl, hr⟩, hB⟩; have HF := Lib.hid (HF.out.keep hB); have HR1 := Lib.hid hr; clear hB hr) | ((with_reducible refine (HN.out.bY _).mono ?_); rintro e w4 ⟨⟨p2, n2, c2, rfl, hr⟩, hB⟩; have HF := Lib.hid (HF.out.keep hB); have HR1 := Lib.hid (HR1.out.keeps (Below.keeps hB)); have HR2 := Lib.hid hr; clear hB hr))
    | (go_at_call 11; first | ((with_reducible refine (HN.out.bR _ (Below.keeps HF.out.below)).mono ?_); rintro e w5 ⟨⟨p3, n3, c3, rfl, hr⟩, hB⟩; have HF := Lib.hid (HF.out.keep hB); have HR1 := Lib.hid (HR1.out.keeps (Below.keeps hB)); have HR2 := Lib.hid (HR2.out.keeps (Below.keeps hB)); have HR3 := Lib.hid hr; clear hB hr) | ((with_reducible refine (HN.out.bS _ (Below.keeps HF.out.below)).mono ?_); rintro e w6 ⟨⟨p4, n4, c4, rfl, hr⟩, hB⟩; have HF := Lib.hid (HF.out.keep hB); have HR1 := Lib.hid (HR1.out.keeps (Below.keeps hB)); have HR2 := Lib.hid (HR2.out.keeps (Below.keeps hB)); have HR3 := Lib.hid (HR3.out.keeps (Below.keeps hB)); have HR4 := Lib.hid hr; clear hB hr)))
  have HQ := Lib.hid (fun (W : World) (hR : RegT.Grow w6.drew W) => HF.out.keep ((Below.refl w6.heap.size w6).drew.trans hR))
  have HT1 := Lib.hid (fun (W : World) (hR : RegT.Grow w6.drew W) => HR1.out.keeps (Below.keeps ((Below.refl w6.heap.size w6).drew.trans hR)))
  have HT2 := Lib.hid (fun (W : World) (hR : RegT.Grow w6.drew W) => HR2.out.keeps (Below.keeps ((Below.refl w6.heap.size w6).drew.trans hR)))
  have HT3 := Lib.hid (fun (W : World) (hR : RegT.Grow w6.drew W) => HR3.out.keeps (Below.keeps ((Below.refl w6.heap.size w6).drew.trans hR)))
  have HT4 := Lib.hid (fun (W : World) (hR : RegT.Grow w6.drew W) => HR4.out.keeps (Below.keeps ((Below.refl w6.heap.size w6).drew.trans hR)))
  apply RegT.wp_region_T rfl 81 17 rfl (by kernel_rfl) RegT.Grow RegT.Grow.refl RegT.Grow.trans
  · apply RegT.T_pure rfl rfl rfl
    · intro W hR; clear hR; go_simp; rfl
    simp only [List.set_cons_succ, List.set_cons_zero, Nat.reduceAdd]
    apply RegT.T_pure (v := .bool true) rfl rfl rfl
    · intro W hR; clear hR; go_simp
    simp only [List.set_cons_succ, List.set_cons_zero, Nat.reduceAdd]
    apply RegT.T_pure (v := .bool true) rfl rfl rfl
    · intro W hR; clear hR; go_simp
    simp only [List.set_cons_succ, List.set_cons_zero, Nat.reduceAdd]
    apply RegT.T_pure rfl rfl rfl
    · intro W hR; clear hR; go_simp; rfl
    simp only [List.set_cons_succ, List.set_cons_zero, Nat.reduceAdd]
    apply RegT.T_pure (v := .bool false) rfl rfl rfl
    · intro W hR; clear hR; go_simp
    simp only [List.set_cons_succ, List.set_cons_zero, Nat.reduceAdd]
    apply RegT.T_pure (v := .bool false) rfl rfl rfl
    · intro W hR; clear hR; go_simp
    simp only [List.set_cons_succ, List.set_cons_zero, Nat.reduceAdd]
    apply RegT.T_pure (v := .bool false) rfl rfl rfl
    · intro W hR; clear hR; go_simp
    simp only [List.set_cons_succ, List.set_cons_zero, Nat.reduceAdd]
    apply RegT.T_skip rfl rfl rfl
    simp only [List.set_cons_succ, List.set_cons_zero, Nat.reduceAdd]
    apply RegT.T_skip rfl rfl rfl
    simp only [List.set_cons_succ, List.set_cons_zero, Nat.reduceAdd]
    apply RegT.T_skip rfl rfl rfl
    simp only [List.set_cons_succ, List.set_cons_zero, Nat.reduceAdd]
    apply RegT.T_skip rfl rfl rfl
    simp only [List.set_cons_succ, List.set_cons_zero, Nat.reduceAdd]
    apply RegT.T_skip rfl rfl rfl
    simp only [List.set_cons_succ, List.set_cons_zero, Nat.reduceAdd]
    apply RegT.T_skip rfl rfl rfl
    simp only [List.set_cons_succ, List.set_cons_zero, Nat.reduceAdd]
    apply RegT.T_skip rfl rfl rfl
    simp only [List.set_cons_succ, List.set_cons_zero, Nat.reduceAdd]
    apply RegT.T_skip rfl rfl rfl
    simp only [List.set_cons_succ, List.set_cons_zero, Nat.reduceAdd]
    apply RegT.T_skip rfl rfl rfl
    simp only [List.set_cons_succ, List.set_cons_zero, Nat.reduceAdd]
    apply RegT.T_pure (v := .bool false) rfl rfl rfl
    · intro W hR; clear hR; go_simp
    simp only [List.set_cons_succ, List.set_cons_zero, Nat.reduceAdd]
    refine RegT.T_end rfl (fun W7 hR hf => ?_)
    have HR1 := Lib.hid (HT1.out W7 hR)
    have HR2 := Lib.hid (HT2.out W7 hR)
    have HR3 := Lib.hid (HT3.out W7 hR)
    have HR4 := Lib.hid (HT4.out W7 hR)
    have HF := Lib.hid (HQ.out W7 hR)
    clear hR hf HQ HT1 HT2 HT3 HT4
    go_wp2
    have HQ := Lib.hid (fun (W : World) (hR : RegT.Grow W7.drew W) => HF.out.keep ((Below.refl W7.heap.size W7).drew.trans hR))
    have HT3 := Lib.hid (fun (W : World) (hR : RegT.Grow W7.drew W) => HR3.out.keeps (Below.keeps ((Below.refl W7.heap.size W7).drew.trans hR)))
    have HT4 := Lib.hid (fun (W : World) (hR : RegT.Grow W7.drew W) => HR4.out.keeps (Below.keeps ((Below.refl W7.heap.size W7).drew.trans hR)))
    apply RegT.wp_region_T rfl 81 21 rfl (by kernel_rfl) RegT.Grow RegT.Grow.refl RegT.Grow.trans
    · apply RegT.T_pure rfl rfl rfl
      · intro W hR; clear hR; go_simp; rfl
      simp only [List.set_cons_succ, List.set_cons_zero, Nat.reduceAdd]
      apply RegT.T_pure (v := .bool true) rfl rfl rfl
      · intro W hR; clear hR; go_simp
      simp only [List.set_cons_succ, List.set_cons_zero, Nat.reduceAdd]
      apply RegT.T_pure (v := .bool true) rfl rfl rfl
      · intro W hR; clear hR; go_simp
      simp only [List.set_cons_succ, List.set_cons_zero, Nat.reduceAdd]
      apply RegT.T_skip rfl rfl rfl
      simp only [List.set_cons_succ, List.set_cons_zero, Nat.reduceAdd]
      apply RegT.T_skip rfl rfl rfl
      simp only [List.set_cons_succ, List.set_cons_zero, Nat.reduceAdd]
      apply RegT.T_pure (v := .bool true) rfl rfl rfl
      · intro W hR; clear hR; go_simp
      simp only [List.set_cons_succ, List.set_cons_zero, Nat.reduceAdd]
      apply RegT.T_pure (v := .bool true) rfl rfl rfl
      · intro W hR; clear hR; go_simp
      simp only [List.set_cons_succ, List.set_cons_zero, Nat.reduceAdd]
      apply RegT.T_skip rfl rfl rfl
      simp only [List.set_cons_succ, List.set_cons_zero, Nat.reduceAdd]
      apply RegT.T_skip rfl rfl rfl
      simp only [List.set_cons_succ, List.set_cons_zero, Nat.reduceAdd]
      apply RegT.T_skip rfl rfl rfl
      simp only [List.set_cons_succ, List.set_cons_zero, Nat.reduceAdd]
      apply RegT.T_skip rfl rfl rfl
      simp only [List.set_cons_succ, List.set_cons_zero, Nat.reduceAdd]
      apply RegT.T_skip rfl rfl rfl
      simp only [List.set_cons_succ, List.set_cons_zero, Nat.reduceAdd]
      apply RegT.T_skip rfl rfl rfl
      simp only [List.set_cons_succ, List.set_cons_zero, Nat.reduceAdd]
      apply RegT.T_skip rfl rfl rfl
      simp only [List.set_cons_succ, List.set_cons_zero, Nat.reduceAdd]
      apply RegT.T_skip rfl rfl rfl
      simp only [List.set_cons_succ, List.set_cons_zero, Nat.reduceAdd]
      apply RegT.T_skip rfl rfl rfl
      simp only [List.set_cons_succ, List.set_cons_zero, Nat.reduceAdd]
      apply RegT.T_pure (v := .bool true) rfl rfl rfl
      · intro W hR; clear hR; go_simp
      simp only [List.set_cons_succ, List.set_cons_zero, Nat.reduceAdd]
      apply RegT.T_pure (v := .bool true) rfl rfl rfl
      · intro W hR; clear hR; go_simp
      simp only [List.set_cons_succ, List.set_cons_zero, Nat.reduceAdd]
      apply RegT.T_const rfl rfl rfl (.bool true) (fun _ _ h => h)
      · intro W hR hf
        have Hc := Lib.hid (known9_w W)
        clear hR hf
        go_simp
        exact RegT.OpOK_enter Hc.out (fun e w' h => ⟨_, h.1, rfl, h.2⟩)
      simp only [List.set_cons_succ, List.set_cons_zero, Nat.reduceAdd]
      apply RegT.T_pure (v := .bool true) rfl rfl rfl
      · intro W hR; clear hR; go_simp
      simp only [List.set_cons_succ, List.set_cons_zero, Nat.reduceAdd]
      apply RegT.T_pure rfl rfl rfl
      · intro W hR; clear hR; go_simp; rfl
      simp only [List.set_cons_succ, List.set_cons_zero, Nat.reduceAdd]
      refine RegT.T_end rfl (fun W9 hR hf => ?_)
      have HFz := Lib.hid (HQ.out W9 hR)
      clear hR hf HQ HT3 HT4
      go_wp2
      go_ret
      exact ⟨rfl, HFz.out.below⟩
    · rfl
    · kernel_rfl
  · rfl
  · kernel_rfl
set_option maxRecDepth 100000 in
set_option maxHeartbeats 6400000 in
theorem apart_11_w (w : World) (cx cy cr cs : Array Value) (ex ey er es : Int) (bx by' br bs : List UInt8) (sc sr : Bool) (hi : ey ≠ 0) (hj : es ≠ 0) (HC : ApC w cx cy cr cs false false 0 ey 0 es bx by' br bs sc sr) :
    Calls Try.prog 3 #[.agg cx, .agg cy, .agg cr, .agg cs] w fun e w' => e = .returned (.bool true) ∧ Below w.heap.size w w' := by
  have d1 : (ey == 0) = false := by simp [hi]
  have d2 : (es != 0) = true := by simp [hj]
  have HI := Lib.hid hi
  have HJ := Lib.hid hj
  clear hi hj
  obtain ⟨W0, hW0⟩ : ∃ W0, (((w.alloc (.cells cx 30)).alloc (.cells cy 30)).alloc (.cells cr 36)).alloc (.cells cs 36) = W0 := ⟨_, rfl⟩
  have HF := Lib.hid (show Four w W0 cx cy cr cs from by rw [← hW0]; exact Four.start w cx cy cr cs)
  have HW0 := Lib.hid hW0
  have hsx := HC.sx
  have hsy := HC.sy
  have hsr := HC.sR
  have hss := HC.sS
  have HN := Lib.hid HC
  clear HC hW0
  go_enter Try.func3, Try.ntmps3
  go_upto_region 1 with fail
  rw [HW0.out]
  go_wp2_with (first
    | (refine wpList_load_rr rfl (.tmp 6) rfl rfl HF.out.r hsr ?_)
    | (refine wpList_load_rr rfl (.tmp 7) rfl rfl HF.out.s hss ?_)
    | (refine wpList_load_cc rfl (.tmp 4) rfl rfl HF.out.x hsx ?_)
    | (refine wpList_load_cc rfl (.tmp 5) rfl rfl HF.out.y hsy ?_)
    | (go_at_call 8; first | ((with_reducible refine (HN.out.lR _ (Below.keeps HF.out.below)).mono ?_); rintro e w1 ⟨rfl, hB⟩; have HF := Lib.hid (HF.out.keep hB); clear hB) | ((with_reducible refine (HN.out.lS _ (Below.keeps HF.out.below)).mono ?_); rintro e w2 ⟨rfl, hB⟩; have HF := Lib.hid (HF.out.keep hB); clear hB))
    | (go_at_call 10; first | ((with_reducible refine (HN.out.bX _).mono ?_); rintro e w3 ⟨⟨p1, n1, c1, rfl, hr⟩, hB⟩; have HF := Lib.hid (HF.out.keep hB); have HR1 := Lib.hid hr; clear hB hr) | ((with_reducible refine (HN.out.bY _).mono ?_); rintro e w4 ⟨⟨p2, n2, c2, rfl, hr⟩, hB⟩; have HF := Lib.hid (HF.out.keep hB); have HR1 := Lib.hid (HR1.out.keeps (Below.keeps hB)); have HR2 := Lib.hid hr; clear hB hr))
    | (go_at_call 11; first | ((with_reducible refine (HN.out.bR _ (Below.keeps HF.out.below)).mono ?_); rintro e w5 ⟨⟨p3, n3, c3, rfl, hr⟩, hB⟩; have HF := Lib.hid (HF.out.keep hB); have HR1 := Lib.hid (HR1.out.keeps (Below.keeps hB)); have HR2 := Lib.hid (HR2.out.keeps (Below.keeps hB)); have HR3 := Lib.hid hr; clear hB hr) | ((with_reducible refine (HN.out.bS _ (Below.keeps HF.out.below)).mono ?_); rintro e w6 ⟨⟨p4, n4, c4, rfl, hr⟩, hB⟩; have HF := Lib.hid (HF.out.keep hB); have HR1 := Lib.hid (HR1.out.keeps (Below.keeps hB)); have HR2 := Lib.hid (HR2.out.keeps (Below.keeps hB)); have HR3 := Lib.hid (HR3.out.keeps (Below.keeps hB)); have HR4 := Lib.hid hr; clear hB hr)))
  have HQ := Lib.hid (fun (W : World) (hR : RegT.Grow w6.drew W) => HF.out.keep ((Below.refl w6.heap.size w6).drew.trans hR))
  have HT1 := Lib.hid (fun (W : World) (hR : RegT.Grow w6.drew W) => HR1.out.keeps (Below.keeps ((Below.refl w6.heap.size w6).drew.trans hR)))
  have HT2 := Lib.hid (fun (W : World) (hR : RegT.Grow w6.drew W) => HR2.out.keeps (Below.keeps ((Below.refl w6.heap.size w6).drew.trans hR)))
  have HT3 := Lib.hid (fun (W : World) (hR : RegT.Grow w6.drew W) => HR3.out.keeps (Below.keeps ((Below.refl w6.heap.size w6).drew.trans hR)))
  have HT4 := Lib.hid (fun (W : World) (hR : RegT.Grow w6.drew W) => HR4.out.keeps (Below.keeps ((Below.refl w6.heap.size w6).drew.trans hR)))
  apply RegT.wp_region_T rfl 81 17 rfl (by kernel_rfl) RegT.Grow RegT.Grow.refl RegT.Grow.trans
  · apply RegT.T_pure rfl rfl rfl
    · intro W hR; clear hR; go_simp; rfl
    simp only [List.set_cons_succ, List.set_cons_zero, Nat.reduceAdd]
    apply RegT.T_pure (v := .bool true) rfl rfl rfl
    · intro W hR; clear hR; go_simp
    simp only [List.set_cons_succ, List.set_cons_zero, Nat.reduceAdd]
    apply RegT.T_pure (v := .bool true) rfl rfl rfl
    · intro W hR; clear hR; go_simp
    simp only [List.set_cons_succ, List.set_cons_zero, Nat.reduceAdd]
    apply RegT.T_pure rfl rfl rfl
    · intro W hR; clear hR; go_simp; rfl
    simp only [List.set_cons_succ, List.set_cons_zero, Nat.reduceAdd]
    apply RegT.T_pure (v := .bool false) rfl rfl rfl
    · intro W hR; clear hR; go_simp
    simp only [List.set_cons_succ, List.set_cons_zero, Nat.reduceAdd]
    apply RegT.T_pure (v := .bool false) rfl rfl rfl
    · intro W hR; clear hR; go_simp
    simp only [List.set_cons_succ, List.set_cons_zero, Nat.reduceAdd]
    apply RegT.T_pure (v := .bool false) rfl rfl rfl
    · intro W hR; clear hR; go_simp
    simp only [List.set_cons_succ, List.set_cons_zero, Nat.reduceAdd]
    apply RegT.T_skip rfl rfl rfl
    simp only [List.set_cons_succ, List.set_cons_zero, Nat.reduceAdd]
    apply RegT.T_skip rfl rfl rfl
    simp only [List.set_cons_succ, List.set_cons_zero, Nat.reduceAdd]
    apply RegT.T_skip rfl rfl rfl
    simp only [List.set_cons_succ, List.set_cons_zero, Nat.reduceAdd]
    apply RegT.T_skip rfl rfl rfl
    simp only [List.set_cons_succ, List.set_cons_zero, Nat.reduceAdd]
    apply RegT.T_skip rfl rfl rfl
    simp only [List.set_cons_succ, List.set_cons_zero, Nat.reduceAdd]
    apply RegT.T_skip rfl rfl rfl
    simp only [List.set_cons_succ, List.set_cons_zero, Nat.reduceAdd]
    apply RegT.T_skip rfl rfl rfl
    simp only [List.set_cons_succ, List.set_cons_zero, Nat.reduceAdd]
    apply RegT.T_skip rfl rfl rfl
    simp only [List.set_cons_succ, List.set_cons_zero, Nat.reduceAdd]
    apply RegT.T_skip rfl rfl rfl
    simp only [List.set_cons_succ, List.set_cons_zero, Nat.reduceAdd]
    apply RegT.T_pure (v := .bool false) rfl rfl rfl
    · intro W hR; clear hR; go_simp
    simp only [List.set_cons_succ, List.set_cons_zero, Nat.reduceAdd]
    refine RegT.T_end rfl (fun W7 hR hf => ?_)
    have HR1 := Lib.hid (HT1.out W7 hR)
    have HR2 := Lib.hid (HT2.out W7 hR)
    have HR3 := Lib.hid (HT3.out W7 hR)
    have HR4 := Lib.hid (HT4.out W7 hR)
    have HF := Lib.hid (HQ.out W7 hR)
    clear hR hf HQ HT1 HT2 HT3 HT4
    go_wp2
    have HQ := Lib.hid (fun (W : World) (hR : RegT.Grow W7.drew W) => HF.out.keep ((Below.refl W7.heap.size W7).drew.trans hR))
    have HT3 := Lib.hid (fun (W : World) (hR : RegT.Grow W7.drew W) => HR3.out.keeps (Below.keeps ((Below.refl W7.heap.size W7).drew.trans hR)))
    have HT4 := Lib.hid (fun (W : World) (hR : RegT.Grow W7.drew W) => HR4.out.keeps (Below.keeps ((Below.refl W7.heap.size W7).drew.trans hR)))
    apply RegT.wp_region_T rfl 81 21 rfl (by kernel_rfl) RegT.Grow RegT.Grow.refl RegT.Grow.trans
    · apply RegT.T_pure rfl rfl rfl
      · intro W hR; clear hR; go_simp; rfl
      simp only [List.set_cons_succ, List.set_cons_zero, Nat.reduceAdd]
      apply RegT.T_pure (v := .bool false) rfl rfl rfl
      · intro W hR; clear hR; go_simp
      simp only [List.set_cons_succ, List.set_cons_zero, Nat.reduceAdd]
      apply RegT.T_pure (v := .bool false) rfl rfl rfl
      · intro W hR; clear hR; go_simp
      simp only [List.set_cons_succ, List.set_cons_zero, Nat.reduceAdd]
      apply RegT.T_pure rfl rfl rfl
      · intro W hR; clear hR; go_simp; rfl
      simp only [List.set_cons_succ, List.set_cons_zero, Nat.reduceAdd]
      apply RegT.T_pure (v := .bool true) rfl rfl rfl
      · intro W hR; clear hR; go_simp
      simp only [List.set_cons_succ, List.set_cons_zero, Nat.reduceAdd]
      apply RegT.T_pure (v := .bool true) rfl rfl rfl
      · intro W hR; clear hR; go_simp
      simp only [List.set_cons_succ, List.set_cons_zero, Nat.reduceAdd]
      apply RegT.T_pure (v := .bool true) rfl rfl rfl
      · intro W hR; clear hR; go_simp
      simp only [List.set_cons_succ, List.set_cons_zero, Nat.reduceAdd]
      apply RegT.T_skip rfl rfl rfl
      simp only [List.set_cons_succ, List.set_cons_zero, Nat.reduceAdd]
      apply RegT.T_skip rfl rfl rfl
      simp only [List.set_cons_succ, List.set_cons_zero, Nat.reduceAdd]
      apply RegT.T_skip rfl rfl rfl
      simp only [List.set_cons_succ, List.set_cons_zero, Nat.reduceAdd]
      apply RegT.T_skip rfl rfl rfl
      simp only [List.set_cons_succ, List.set_cons_zero, Nat.reduceAdd]
      apply RegT.T_skip rfl rfl rfl
      simp only [List.set_cons_succ, List.set_cons_zero, Nat.reduceAdd]
      apply RegT.T_skip rfl rfl rfl
      simp only [List.set_cons_succ, List.set_cons_zero, Nat.reduceAdd]
      apply RegT.T_skip rfl rfl rfl
      simp only [List.set_cons_succ, List.set_cons_zero, Nat.reduceAdd]
      apply RegT.T_skip rfl rfl rfl
      simp only [List.set_cons_succ, List.set_cons_zero, Nat.reduceAdd]
      apply RegT.T_skip rfl rfl rfl
      simp only [List.set_cons_succ, List.set_cons_zero, Nat.reduceAdd]
      apply RegT.T_pure (v := .bool true) rfl rfl rfl
      · intro W hR; clear hR; go_simp
      simp only [List.set_cons_succ, List.set_cons_zero, Nat.reduceAdd]
      apply RegT.T_pure (v := .bool true) rfl rfl rfl
      · intro W hR; clear hR; go_simp
      simp only [List.set_cons_succ, List.set_cons_zero, Nat.reduceAdd]
      apply RegT.T_const rfl rfl rfl (.bool true) (fun _ _ h => h)
      · intro W hR hf
        have Hc := Lib.hid (known9_w W)
        clear hR hf
        go_simp
        exact RegT.OpOK_enter Hc.out (fun e w' h => ⟨_, h.1, rfl, h.2⟩)
      simp only [List.set_cons_succ, List.set_cons_zero, Nat.reduceAdd]
      apply RegT.T_pure (v := .bool true) rfl rfl rfl
      · intro W hR; clear hR; go_simp
      simp only [List.set_cons_succ, List.set_cons_zero, Nat.reduceAdd]
      apply RegT.T_pure rfl rfl rfl
      · intro W hR; clear hR; go_simp; rfl
      simp only [List.set_cons_succ, List.set_cons_zero, Nat.reduceAdd]
      refine RegT.T_end rfl (fun W9 hR hf => ?_)
      have HFz := Lib.hid (HQ.out W9 hR)
      clear hR hf HQ HT3 HT4
      go_wp2
      go_ret
      exact ⟨rfl, HFz.out.below⟩
    · rfl
    · kernel_rfl
  · rfl
  · kernel_rfl
set_option maxRecDepth 100000 in
set_option maxHeartbeats 6400000 in
theorem apart_12_w (w : World) (cx cy cr cs : Array Value) (ex ey er es : Int) (bx by' br bs : List UInt8) (sc sr : Bool) (hi : ey ≠ 0) (hj : br = bs) (HC : ApC w cx cy cr cs false false 0 ey 0 0 bx by' br bs sc true) :
    Calls Try.prog 3 #[.agg cx, .agg cy, .agg cr, .agg cs] w fun e w' => e = .returned (.bool true) ∧ Below w.heap.size w w' := by
  have d1 : (ey == 0) = false := by simp [hi]
  have HI := Lib.hid hi
  have HJ := Lib.hid hj
  clear hi hj
  obtain ⟨W0, hW0⟩ : ∃ W0, (((w.alloc (.cells cx 30)).alloc (.cells cy 30)).alloc (.cells cr 36)).alloc (.cells cs 36) = W0 := ⟨_, rfl⟩
  have HF := Lib.hid (show Four w W0 cx cy cr cs from by rw [← hW0]; exact Four.start w cx cy cr cs)
  have HW0 := Lib.hid hW0
  have hsx := HC.sx
  have hsy := HC.sy
  have hsr := HC.sR
  have hss := HC.sS
  have HN := Lib.hid HC
  clear HC hW0
  go_enter Try.func3, Try.ntmps3
  go_upto_region 1 with fail
  rw [HW0.out]
  go_wp2_with (first
    | (refine wpList_load_rr rfl (.tmp 6) rfl rfl HF.out.r hsr ?_)
    | (refine wpList_load_rr rfl (.tmp 7) rfl rfl HF.out.s hss ?_)
    | (refine wpList_load_cc rfl (.tmp 4) rfl rfl HF.out.x hsx ?_)
    | (refine wpList_load_cc rfl (.tmp 5) rfl rfl HF.out.y hsy ?_)
    | (go_at_call 8; first | ((with_reducible refine (HN.out.lR _ (Below.keeps HF.out.below)).mono ?_); rintro e w1 ⟨rfl, hB⟩; have HF := Lib.hid (HF.out.keep hB); clear hB) | ((with_reducible refine (HN.out.lS _ (Below.keeps HF.out.below)).mono ?_); rintro e w2 ⟨rfl, hB⟩; have HF := Lib.hid (HF.out.keep hB); clear hB))
    | (go_at_call 10; first | ((with_reducible refine (HN.out.bX _).mono ?_); rintro e w3 ⟨⟨p1, n1, c1, rfl, hr⟩, hB⟩; have HF := Lib.hid (HF.out.keep hB); have HR1 := Lib.hid hr; clear hB hr) | ((with_reducible refine (HN.out.bY _).mono ?_); rintro e w4 ⟨⟨p2, n2, c2, rfl, hr⟩, hB⟩; have HF := Lib.hid (HF.out.keep hB); have HR1 := Lib.hid (HR1.out.keeps (Below.keeps hB)); have HR2 := Lib.hid hr; clear hB hr))
    | (go_at_call 11; first | ((with_reducible refine (HN.out.bR _ (Below.keeps HF.out.below)).mono ?_); rintro e w5 ⟨⟨p3, n3, c3, rfl, hr⟩, hB⟩; have HF := Lib.hid (HF.out.keep hB); have HR1 := Lib.hid (HR1.out.keeps (Below.keeps hB)); have HR2 := Lib.hid (HR2.out.keeps (Below.keeps hB)); have HR3 := Lib.hid hr; clear hB hr) | ((with_reducible refine (HN.out.bS _ (Below.keeps HF.out.below)).mono ?_); rintro e w6 ⟨⟨p4, n4, c4, rfl, hr⟩, hB⟩; have HF := Lib.hid (HF.out.keep hB); have HR1 := Lib.hid (HR1.out.keeps (Below.keeps hB)); have HR2 := Lib.hid (HR2.out.keeps (Below.keeps hB)); have HR3 := Lib.hid (HR3.out.keeps (Below.keeps hB)); have HR4 := Lib.hid hr; clear hB hr)))
  have HQ := Lib.hid (fun (W : World) (hR : RegT.Grow w6.drew W) => HF.out.keep ((Below.refl w6.heap.size w6).drew.trans hR))
  have HT1 := Lib.hid (fun (W : World) (hR : RegT.Grow w6.drew W) => HR1.out.keeps (Below.keeps ((Below.refl w6.heap.size w6).drew.trans hR)))
  have HT2 := Lib.hid (fun (W : World) (hR : RegT.Grow w6.drew W) => HR2.out.keeps (Below.keeps ((Below.refl w6.heap.size w6).drew.trans hR)))
  have HT3 := Lib.hid (fun (W : World) (hR : RegT.Grow w6.drew W) => HR3.out.keeps (Below.keeps ((Below.refl w6.heap.size w6).drew.trans hR)))
  have HT4 := Lib.hid (fun (W : World) (hR : RegT.Grow w6.drew W) => HR4.out.keeps (Below.keeps ((Below.refl w6.heap.size w6).drew.trans hR)))
  apply RegT.wp_region_T rfl 81 17 rfl (by kernel_rfl) RegT.Grow RegT.Grow.refl RegT.Grow.trans
  · apply RegT.T_pure rfl rfl rfl
    · intro W hR; clear hR; go_simp; rfl
    simp only [List.set_cons_succ, List.set_cons_zero, Nat.reduceAdd]
    apply RegT.T_pure (v := .bool true) rfl rfl rfl
    · intro W hR; clear hR; go_simp
    simp only [List.set_cons_succ, List.set_cons_zero, Nat.reduceAdd]
    apply RegT.T_pure (v := .bool true) rfl rfl rfl
    · intro W hR; clear hR; go_simp
    simp only [List.set_cons_succ, List.set_cons_zero, Nat.reduceAdd]
    apply RegT.T_pure rfl rfl rfl
    · intro W hR; clear hR; go_simp; rfl
    simp only [List.set_cons_succ, List.set_cons_zero, Nat.reduceAdd]
    apply RegT.T_pure (v := .bool false) rfl rfl rfl
    · intro W hR; clear hR; go_simp
    simp only [List.set_cons_succ, List.set_cons_zero, Nat.reduceAdd]
    apply RegT.T_pure (v := .bool false) rfl rfl rfl
    · intro W hR; clear hR; go_simp
    simp only [List.set_cons_succ, List.set_cons_zero, Nat.reduceAdd]
    apply RegT.T_pure (v := .bool false) rfl rfl rfl
    · intro W hR; clear hR; go_simp
    simp only [List.set_cons_succ, List.set_cons_zero, Nat.reduceAdd]
    apply RegT.T_skip rfl rfl rfl
    simp only [List.set_cons_succ, List.set_cons_zero, Nat.reduceAdd]
    apply RegT.T_skip rfl rfl rfl
    simp only [List.set_cons_succ, List.set_cons_zero, Nat.reduceAdd]
    apply RegT.T_skip rfl rfl rfl
    simp only [List.set_cons_succ, List.set_cons_zero, Nat.reduceAdd]
    apply RegT.T_skip rfl rfl rfl
    simp only [List.set_cons_succ, List.set_cons_zero, Nat.reduceAdd]
    apply RegT.T_skip rfl rfl rfl
    simp only [List.set_cons_succ, List.set_cons_zero, Nat.reduceAdd]
    apply RegT.T_skip rfl rfl rfl
    simp only [List.set_cons_succ, List.set_cons_zero, Nat.reduceAdd]
    apply RegT.T_skip rfl rfl rfl
    simp only [List.set_cons_succ, List.set_cons_zero, Nat.reduceAdd]
    apply RegT.T_skip rfl rfl rfl
    simp only [List.set_cons_succ, List.set_cons_zero, Nat.reduceAdd]
    apply RegT.T_skip rfl rfl rfl
    simp only [List.set_cons_succ, List.set_cons_zero, Nat.reduceAdd]
    apply RegT.T_pure (v := .bool false) rfl rfl rfl
    · intro W hR; clear hR; go_simp
    simp only [List.set_cons_succ, List.set_cons_zero, Nat.reduceAdd]
    refine RegT.T_end rfl (fun W7 hR hf => ?_)
    have HR1 := Lib.hid (HT1.out W7 hR)
    have HR2 := Lib.hid (HT2.out W7 hR)
    have HR3 := Lib.hid (HT3.out W7 hR)
    have HR4 := Lib.hid (HT4.out W7 hR)
    have HF := Lib.hid (HQ.out W7 hR)
    clear hR hf HQ HT1 HT2 HT3 HT4
    go_wp2
    have HQ := Lib.hid (fun (W : World) (hR : RegT.Grow W7.drew W) => HF.out.keep ((Below.refl W7.heap.size W7).drew.trans hR))
    have HT3 := Lib.hid (fun (W : World) (hR : RegT.Grow W7.drew W) => HR3.out.keeps (Below.keeps ((Below.refl W7.heap.size W7).drew.trans hR)))
    have HT4 := Lib.hid (fun (W : World) (hR : RegT.Grow W7.drew W) => HR4.out.keeps (Below.keeps ((Below.refl W7.heap.size W7).drew.trans hR)))
    apply RegT.wp_region_T rfl 81 21 rfl (by kernel_rfl) RegT.Grow RegT.Grow.refl RegT.Grow.trans
    · apply RegT.T_pure rfl rfl rfl
      · intro W hR; clear hR; go_simp; rfl
      simp only [List.set_cons_succ, List.set_cons_zero, Nat.reduceAdd]
      apply RegT.T_pure (v := .bool false) rfl rfl rfl
      · intro W hR; clear hR; go_simp
      simp only [List.set_cons_succ, List.set_cons_zero, Nat.reduceAdd]
      apply RegT.T_pure (v := .bool false) rfl rfl rfl
      · intro W hR; clear hR; go_simp
      simp only [List.set_cons_succ, List.set_cons_zero, Nat.reduceAdd]
      apply RegT.T_pure rfl rfl rfl
      · intro W hR; clear hR; go_simp; rfl
      simp only [List.set_cons_succ, List.set_cons_zero, Nat.reduceAdd]
      apply RegT.T_pure (v := .bool false) rfl rfl rfl
      · intro W hR; clear hR; go_simp
      simp only [List.set_cons_succ, List.set_cons_zero, Nat.reduceAdd]
      apply RegT.T_pure (v := .bool false) rfl rfl rfl
      · intro W hR; clear hR; go_simp
      simp only [List.set_cons_succ, List.set_cons_zero, Nat.reduceAdd]
      apply RegT.T_pure (v := .bool false) rfl rfl rfl
      · intro W hR; clear hR; go_simp
      simp only [List.set_cons_succ, List.set_cons_zero, Nat.reduceAdd]
      apply RegT.T_pure rfl rfl rfl
      · intro W hR; clear hR; go_simp; rfl
      simp only [List.set_cons_succ, List.set_cons_zero, Nat.reduceAdd]
      apply RegT.T_pure (v := .string ⟨br.toArray⟩) rfl rfl rfl
      · intro W hR
        have hc := run_convert_str (P := Try.prog) (HT3.out W hR) 39 5 9 Try.underlying39 Try.underlying5 Try.underlying9
        clear hR
        go_simp
      simp only [List.set_cons_succ, List.set_cons_zero, Nat.reduceAdd]
      apply RegT.T_pure rfl rfl rfl
      · intro W hR; clear hR; go_simp; rfl
      simp only [List.set_cons_succ, List.set_cons_zero, Nat.reduceAdd]
      apply RegT.T_pure (v := .string ⟨bs.toArray⟩) rfl rfl rfl
      · intro W hR
        have hc := run_convert_str (P := Try.prog) (HT4.out W hR) 39 5 9 Try.underlying39 Try.underlying5 Try.underlying9
        clear hR
        go_simp
      simp only [List.set_cons_succ, List.set_cons_zero, Nat.reduceAdd]
      apply RegT.T_pure (v := .bool true) rfl rfl rfl
      · intro W hR; clear hR; (go_simp; exact HJ.out)
      simp only [List.set_cons_succ, List.set_cons_zero, Nat.reduceAdd]
      apply RegT.T_pure rfl rfl rfl
      · exact fun W hR => load_rr (.tmp 6) rfl rfl (HQ.out W hR).r hsr
      simp only [List.set_cons_succ, List.set_cons_zero, Nat.reduceAdd]
      apply RegT.T_pure rfl rfl rfl
      · exact fun W hR => load_rr (.tmp 7) rfl rfl (HQ.out W hR).s hss
      simp only [List.set_cons_succ, List.set_cons_zero, Nat.reduceAdd]
      apply RegT.T_const rfl rfl rfl (.bool true) (fun _ _ h => h)
      · intro W hR hf
        have Hc := Lib.hid (HN.out.sm W (Below.keeps (HQ.out W hR).below))
        clear hR hf
        go_simp
        exact RegT.OpOK_enter Hc.out (fun e w' h => ⟨_, h.1, rfl, h.2⟩)
      simp only [List.set_cons_succ, List.set_cons_zero, Nat.reduceAdd]
      apply RegT.T_pure (v := .bool true) rfl rfl rfl
      · intro W hR; clear hR; go_simp
      simp only [List.set_cons_succ, List.set_cons_zero, Nat.reduceAdd]
      apply RegT.T_pure (v := .bool true) rfl rfl rfl
      · intro W hR; clear hR; go_simp
      simp only [List.set_cons_succ, List.set_cons_zero, Nat.reduceAdd]
      apply RegT.T_pure (v := .bool true) rfl rfl rfl
      · intro W hR; clear hR; go_simp
      simp only [List.set_cons_succ, List.set_cons_zero, Nat.reduceAdd]
      apply RegT.T_const rfl rfl rfl (.bool true) (fun _ _ h => h)
      · intro W hR hf
        have Hc := Lib.hid (known9_w W)
        clear hR hf
        go_simp
        exact RegT.OpOK_enter Hc.out (fun e w' h => ⟨_, h.1, rfl, h.2⟩)
      simp only [List.set_cons_succ, List.set_cons_zero, Nat.reduceAdd]
      apply RegT.T_pure (v := .bool true) rfl rfl rfl
      · intro W hR; clear hR; go_simp
      simp only [List.set_cons_succ, List.set_cons_zero, Nat.reduceAdd]
      apply RegT.T_pure rfl rfl rfl
      · intro W hR; clear hR; go_simp; rfl
      simp only [List.set_cons_succ, List.set_cons_zero, Nat.reduceAdd]
      refine RegT.T_end rfl (fun W9 hR hf => ?_)
      have HFz := Lib.hid (HQ.out W9 hR)
      clear hR hf HQ HT3 HT4
      go_wp2
      go_ret
      exact ⟨rfl, HFz.out.below⟩
    · rfl
    · kernel_rfl
  · rfl
  · kernel_rfl
set_option maxRecDepth 100000 in
set_option maxHeartbeats 6400000 in
theorem apart_13_w (w : World) (cx cy cr cs : Array Value) (ex ey er es : Int) (bx by' br bs : List UInt8) (sc sr : Bool) (hi : ey ≠ 0) (hj : br ≠ bs) (HC : ApC w cx cy cr cs false false 0 ey 0 0 bx by' br bs sc false) :
    Calls Try.prog 3 #[.agg cx, .agg cy, .agg cr, .agg cs] w fun e w' => e = .returned (.bool true) ∧ Below w.heap.size w w' := by
  have d1 : (ey == 0) = false := by simp [hi]
  have HI := Lib.hid hi
  have HJ := Lib.hid hj
  clear hi hj
  obtain ⟨W0, hW0⟩ : ∃ W0, (((w.alloc (.cells cx 30)).alloc (.cells cy 30)).alloc (.cells cr 36)).alloc (.cells cs 36) = W0 := ⟨_, rfl⟩
  have HF := Lib.hid (show Four w W0 cx cy cr cs from by rw [← hW0]; exact Four.start w cx cy cr cs)
  have HW0 := Lib.hid hW0
  have hsx := HC.sx
  have hsy := HC.sy
  have hsr := HC.sR
  have hss := HC.sS
  have HN := Lib.hid HC
  clear HC hW0
  go_enter Try.func3, Try.ntmps3
  go_upto_region 1 with fail
  rw [HW0.out]
  go_wp2_with (first
    | (refine wpList_load_rr rfl (.tmp 6) rfl rfl HF.out.r hsr ?_)
    | (refine wpList_load_rr rfl (.tmp 7) rfl rfl HF.out.s hss ?_)
    | (refine wpList_load_cc rfl (.tmp 4) rfl rfl HF.out.x hsx ?_)
    | (refine wpList_load_cc rfl (.tmp 5) rfl rfl HF.out.y hsy ?_)
    | (go_at_call 8; first | ((with_reducible refine (HN.out.lR _ (Below.keeps HF.out.below)).mono ?_); rintro e w1 ⟨rfl, hB⟩; have HF := Lib.hid (HF.out.keep hB); clear hB) | ((with_reducible refine (HN.out.lS _ (Below.keeps HF.out.below)).mono ?_); rintro e w2 ⟨rfl, hB⟩; have HF := Lib.hid (HF.out.keep hB); clear hB))
    | (go_at_call 10; first | ((with_reducible refine (HN.out.bX _).mono ?_); rintro e w3 ⟨⟨p1, n1, c1, rfl, hr⟩, hB⟩; have HF := Lib.hid (HF.out.keep hB); have HR1 := Lib.hid hr; clear hB hr) | ((with_reducible refine (HN.out.bY _).mono ?_); rintro e w4 ⟨⟨p2, n2, c2, rfl, hr⟩, hB⟩; have HF := Lib.hid (HF.out.keep hB); have HR1 := Lib.hid (HR1.out.keeps (Below.keeps hB)); have HR2 := Lib.hid hr; clear hB hr))
    | (go_at_call 11; first | ((with_reducible refine (HN.out.bR _ (Below.keeps HF.out.below)).mono ?_); rintro e w5 ⟨⟨p3, n3, c3, rfl, hr⟩, hB⟩; have HF := Lib.hid (HF.out.keep hB); have HR1 := Lib.hid (HR1.out.keeps (Below.keeps hB)); have HR2 := Lib.hid (HR2.out.keeps (Below.keeps hB)); have HR3 := Lib.hid hr; clear hB hr) | ((with_reducible refine (HN.out.bS _ (Below.keeps HF.out.below)).mono ?_); rintro e w6 ⟨⟨p4, n4, c4, rfl, hr⟩, hB⟩; have HF := Lib.hid (HF.out.keep hB); have HR1 := Lib.hid (HR1.out.keeps (Below.keeps hB)); have HR2 := Lib.hid (HR2.out.keeps (Below.keeps hB)); have HR3 := Lib.hid (HR3.out.keeps (Below.keeps hB)); have HR4 := Lib.hid hr; clear hB hr)))
  have HQ := Lib.hid (fun (W : World) (hR : RegT.Grow w6.drew W) => HF.out.keep ((Below.refl w6.heap.size w6).drew.trans hR))
  have HT1 := Lib.hid (fun (W : World) (hR : RegT.Grow w6.drew W) => HR1.out.keeps (Below.keeps ((Below.refl w6.heap.size w6).drew.trans hR)))
  have HT2 := Lib.hid (fun (W : World) (hR : RegT.Grow w6.drew W) => HR2.out.keeps (Below.keeps ((Below.refl w6.heap.size w6).drew.trans hR)))
  have HT3 := Lib.hid (fun (W : World) (hR : RegT.Grow w6.drew W) => HR3.out.keeps (Below.keeps ((Below.refl w6.heap.size w6).drew.trans hR)))
  have HT4 := Lib.hid (fun (W : World) (hR : RegT.Grow w6.drew W) => HR4.out.keeps (Below.keeps ((Below.refl w6.heap.size w6).drew.trans hR)))
  apply RegT.wp_region_T rfl 81 17 rfl (by kernel_rfl) RegT.Grow RegT.Grow.refl RegT.Grow.trans
  · apply RegT.T_pure rfl rfl rfl
    · intro W hR; clear hR; go_simp; rfl
    simp only [List.set_cons_succ, List.set_cons_zero, Nat.reduceAdd]
    apply RegT.T_pure (v := .bool true) rfl rfl rfl
    · intro W hR; clear hR; go_simp
    simp only [List.set_cons_succ, List.set_cons_zero, Nat.reduceAdd]
    apply RegT.T_pure (v := .bool true) rfl rfl rfl
    · intro W hR; clear hR; go_simp
    simp only [List.set_cons_succ, List.set_cons_zero, Nat.reduceAdd]
    apply RegT.T_pure rfl rfl rfl
    · intro W hR; clear hR; go_simp; rfl
    simp only [List.set_cons_succ, List.set_cons_zero, Nat.reduceAdd]
    apply RegT.T_pure (v := .bool false) rfl rfl rfl
    · intro W hR; clear hR; go_simp
    simp only [List.set_cons_succ, List.set_cons_zero, Nat.reduceAdd]
    apply RegT.T_pure (v := .bool false) rfl rfl rfl
    · intro W hR; clear hR; go_simp
    simp only [List.set_cons_succ, List.set_cons_zero, Nat.reduceAdd]
    apply RegT.T_pure (v := .bool false) rfl rfl rfl
    · intro W hR; clear hR; go_simp
    simp only [List.set_cons_succ, List.set_cons_zero, Nat.reduceAdd]
    apply RegT.T_skip rfl rfl rfl
    simp only [List.set_cons_succ, List.set_cons_zero, Nat.reduceAdd]
    apply RegT.T_skip rfl rfl rfl
    simp only [List.set_cons_succ, List.set_cons_zero, Nat.reduceAdd]
    apply RegT.T_skip rfl rfl rfl
    simp only [List.set_cons_succ, List.set_cons_zero, Nat.reduceAdd]
    apply RegT.T_skip rfl rfl rfl
    simp only [List.set_cons_succ, List.set_cons_zero, Nat.reduceAdd]
    apply RegT.T_skip rfl rfl rfl
    simp only [List.set_cons_succ, List.set_cons_zero, Nat.reduceAdd]
    apply RegT.T_skip rfl rfl rfl
    simp only [List.set_cons_succ, List.set_cons_zero, Nat.reduceAdd]
    apply RegT.T_skip rfl rfl rfl
    simp only [List.set_cons_succ, List.set_cons_zero, Nat.reduceAdd]
    apply RegT.T_skip rfl rfl rfl
    simp only [List.set_cons_succ, List.set_cons_zero, Nat.reduceAdd]
    apply RegT.T_skip rfl rfl rfl
    simp only [List.set_cons_succ, List.set_cons_zero, Nat.reduceAdd]
    apply RegT.T_pure (v := .bool false) rfl rfl rfl
    · intro W hR; clear hR; go_simp
    simp only [List.set_cons_succ, List.set_cons_zero, Nat.reduceAdd]
    refine RegT.T_end rfl (fun W7 hR hf => ?_)
    have HR1 := Lib.hid (HT1.out W7 hR)
    have HR2 := Lib.hid (HT2.out W7 hR)
    have HR3 := Lib.hid (HT3.out W7 hR)
    have HR4 := Lib.hid (HT4.out W7 hR)
    have HF := Lib.hid (HQ.out W7 hR)
    clear hR hf HQ HT1 HT2 HT3 HT4
    go_wp2
    have HQ := Lib.hid (fun (W : World) (hR : RegT.Grow W7.drew W) => HF.out.keep ((Below.refl W7.heap.size W7).drew.trans hR))
    have HT3 := Lib.hid (fun (W : World) (hR : RegT.Grow W7.drew W) => HR3.out.keeps (Below.keeps ((Below.refl W7.heap.size W7).drew.trans hR)))
    have HT4 := Lib.hid (fun (W : World) (hR : RegT.Grow W7.drew W) => HR4.out.keeps (Below.keeps ((Below.refl W7.heap.size W7).drew.trans hR)))
    apply RegT.wp_region_T rfl 81 21 rfl (by kernel_rfl) RegT.Grow RegT.Grow.refl RegT.Grow.trans
    · apply RegT.T_pure rfl rfl rfl
      · intro W hR; clear hR; go_simp; rfl
      simp only [List.set_cons_succ, List.set_cons_zero, Nat.reduceAdd]
      apply RegT.T_pure (v := .bool false) rfl rfl rfl
      · intro W hR; clear hR; go_simp
      simp only [List.set_cons_succ, List.set_cons_zero, Nat.reduceAdd]
      apply RegT.T_pure (v := .bool false) rfl rfl rfl
      · intro W hR; clear hR; go_simp
      simp only [List.set_cons_succ, List.set_cons_zero, Nat.reduceAdd]
      apply RegT.T_pure rfl rfl rfl
      · intro W hR; clear hR; go_simp; rfl
      simp only [List.set_cons_succ, List.set_cons_zero, Nat.reduceAdd]
      apply RegT.T_pure (v := .bool false) rfl rfl rfl
      · intro W hR; clear hR; go_simp
      simp only [List.set_cons_succ, List.set_cons_zero, Nat.reduceAdd]
      apply RegT.T_pure (v := .bool false) rfl rfl rfl
      · intro W hR; clear hR; go_simp
      simp only [List.set_cons_succ, List.set_cons_zero, Nat.reduceAdd]
      apply RegT.T_pure (v := .bool false) rfl rfl rfl
      · intro W hR; clear hR; go_simp
      simp only [List.set_cons_succ, List.set_cons_zero, Nat.reduceAdd]
      apply RegT.T_pure rfl rfl rfl
      · intro W hR; clear hR; go_simp; rfl
      simp only [List.set_cons_succ, List.set_cons_zero, Nat.reduceAdd]
      apply RegT.T_pure (v := .string ⟨br.toArray⟩) rfl rfl rfl
      · intro W hR
        have hc := run_convert_str (P := Try.prog) (HT3.out W hR) 39 5 9 Try.underlying39 Try.underlying5 Try.underlying9
        clear hR
        go_simp
      simp only [List.set_cons_succ, List.set_cons_zero, Nat.reduceAdd]
      apply RegT.T_pure rfl rfl rfl
      · intro W hR; clear hR; go_simp; rfl
      simp only [List.set_cons_succ, List.set_cons_zero, Nat.reduceAdd]
      apply RegT.T_pure (v := .string ⟨bs.toArray⟩) rfl rfl rfl
      · intro W hR
        have hc := run_convert_str (P := Try.prog) (HT4.out W hR) 39 5 9 Try.underlying39 Try.underlying5 Try.underlying9
        clear hR
        go_simp
      simp only [List.set_cons_succ, List.set_cons_zero, Nat.reduceAdd]
      apply RegT.T_pure (v := .bool false) rfl rfl rfl
      · intro W hR; clear hR; (go_simp; exact HJ.out)
      simp only [List.set_cons_succ, List.set_cons_zero, Nat.reduceAdd]
      apply RegT.T_pure rfl rfl rfl
      · exact fun W hR => load_rr (.tmp 6) rfl rfl (HQ.out W hR).r hsr
      simp only [List.set_cons_succ, List.set_cons_zero, Nat.reduceAdd]
      apply RegT.T_pure rfl rfl rfl
      · exact fun W hR => load_rr (.tmp 7) rfl rfl (HQ.out W hR).s hss
      simp only [List.set_cons_succ, List.set_cons_zero, Nat.reduceAdd]
      apply RegT.T_const rfl rfl rfl (.bool false) (fun _ _ h => h)
      · intro W hR hf
        have Hc := Lib.hid (HN.out.sm W (Below.keeps (HQ.out W hR).below))
        clear hR hf
        go_simp
        exact RegT.OpOK_enter Hc.out (fun e w' h => ⟨_, h.1, rfl, h.2⟩)
      simp only [List.set_cons_succ, List.set_cons_zero, Nat.reduceAdd]
      apply RegT.T_pure (v := .bool true) rfl rfl rfl
      · intro W hR; clear hR; go_simp
      simp only [List.set_cons_succ, List.set_cons_zero, Nat.reduceAdd]
      apply RegT.T_pure (v := .bool true) rfl rfl rfl
      · intro W hR; clear hR; go_simp
      simp only [List.set_cons_succ, List.set_cons_zero, Nat.reduceAdd]
      apply RegT.T_pure (v := .bool true) rfl rfl rfl
      · intro W hR; clear hR; go_simp
      simp only [List.set_cons_succ, List.set_cons_zero, Nat.reduceAdd]
      apply RegT.T_const rfl rfl rfl (.bool true) (fun _ _ h => h)
      · intro W hR hf
        have Hc := Lib.hid (known9_w W)
        clear hR hf
        go_simp
        exact RegT.OpOK_enter Hc.out (fun e w' h => ⟨_, h.1, rfl, h.2⟩)
      simp only [List.set_cons_succ, List.set_cons_zero, Nat.reduceAdd]
      apply RegT.T_pure (v := .bool true) rfl rfl rfl
      · intro W hR; clear hR; go_simp
      simp only [List.set_cons_succ, List.set_cons_zero, Nat.reduceAdd]
      apply RegT.T_pure rfl rfl rfl
      · intro W hR; clear hR; go_simp; rfl
      simp only [List.set_cons_succ, List.set_cons_zero, Nat.reduceAdd]
      refine RegT.T_end rfl (fun W9 hR hf => ?_)
      have HFz := Lib.hid (HQ.out W9 hR)
      clear hR hf HQ HT3 HT4
      go_wp2
      go_ret
      exact ⟨rfl, HFz.out.below⟩
    · rfl
    · kernel_rfl
  · rfl
  · kernel_rfl
set_option maxRecDepth 100000 in
set_option maxHeartbeats 6400000 in
theorem apart_20_w (w : World) (cx cy cr cs : Array Value) (ex ey er es : Int) (bx by' br bs : List UInt8) (sc sr : Bool) (hi : bx = by') (hj : er ≠ 0) (HC : ApC w cx cy cr cs false false 0 0 er es bx by' br bs true sr) :
    Calls Try.prog 3 #[.agg cx, .agg cy, .agg cr, .agg cs] w fun e w' => e = .returned (.bool true) ∧ Below w.heap.size w w' := by
  have d2 : (er != 0) = true := by simp [hj]
  have HI := Lib.hid hi
  have HJ := Lib.hid hj
  clear hi hj
  obtain ⟨W0, hW0⟩ : ∃ W0, (((w.alloc (.cells cx 30)).alloc (.cells cy 30)).alloc (.cells cr 36)).alloc (.cells cs 36) = W0 := ⟨_, rfl⟩
  have HF := Lib.hid (show Four w W0 cx cy cr cs from by rw [← hW0]; exact Four.start w cx cy cr cs)
  have HW0 := Lib.hid hW0
  have hsx := HC.sx
  have hsy := HC.sy
  have hsr := HC.sR
  have hss := HC.sS
  have HN := Lib.hid HC
  clear HC hW0
  go_enter Try.func3, Try.ntmps3
  go_upto_region 1 with fail
  rw [HW0.out]
  go_wp2_with (first
    | (refine wpList_load_rr rfl (.tmp 6) rfl rfl HF.out.r hsr ?_)
    | (refine wpList_load_rr rfl (.tmp 7) rfl rfl HF.out.s hss ?_)
    | (refine wpList_load_cc rfl (.tmp 4) rfl rfl HF.out.x hsx ?_)
    | (refine wpList_load_cc rfl (.tmp 5) rfl rfl HF.out.y hsy ?_)
    | (go_at_call 8; first | ((with_reducible refine (HN.out.lR _ (Below.keeps HF.out.below)).mono ?_); rintro e w1 ⟨rfl, hB⟩; have HF := Lib.hid (HF.out.keep hB); clear hB) | ((with_reducible refine (HN.out.lS _ (Below.keeps HF.out.below)).mono ?_); rintro e w2 ⟨rfl, hB⟩; have HF := Lib.hid (HF.out.keep hB); clear hB))
    | (go_at_call 10; first | ((with_reducible refine (HN.out.bX _).mono ?_); rintro e w3 ⟨⟨p1, n1, c1, rfl, hr⟩, hB⟩; have HF := Lib.hid (HF.out.keep hB); have HR1 := Lib.hid hr; clear hB hr) | ((with_reducible refine (HN.out.bY _).mono ?_); rintro e w4 ⟨⟨p2, n2, c2, rfl, hr⟩, hB⟩; have HF := Lib.hid (HF.out.keep hB); have HR1 := Lib.hid (HR1.out.keeps (Below.keeps hB)); have HR2 := Lib.hid hr; clear hB hr))
    | (go_at_call 11; first | ((with_reducible refine (HN.out.bR _ (Below.keeps HF.out.below)).mono ?_); rintro e w5 ⟨⟨p3, n3, c3, rfl, hr⟩, hB⟩; have HF := Lib.hid (HF.out.keep hB); have HR1 := Lib.hid (HR1.out.keeps (Below.keeps hB)); have HR2 := Lib.hid (HR2.out.keeps (Below.keeps hB)); have HR3 := Lib.hid hr; clear hB hr) | ((with_reducible refine (HN.out.bS _ (Below.keeps HF.out.below)).mono ?_); rintro e w6 ⟨⟨p4, n4, c4, rfl, hr⟩, hB⟩; have HF := Lib.hid (HF.out.keep hB); have HR1 := Lib.hid (HR1.out.keeps (Below.keeps hB)); have HR2 := Lib.hid (HR2.out.keeps (Below.keeps hB)); have HR3 := Lib.hid (HR3.out.keeps (Below.keeps hB)); have HR4 := Lib.hid hr; clear hB hr)))
  have HQ := Lib.hid (fun (W : World) (hR : RegT.Grow w6.drew W) => HF.out.keep ((Below.refl w6.heap.size w6).drew.trans hR))
  have HT1 := Lib.hid (fun (W : World) (hR : RegT.Grow w6.drew W) => HR1.out.keeps (Below.keeps ((Below.refl w6.heap.size w6).drew.trans hR)))
  have HT2 := Lib.hid (fun (W : World) (hR : RegT.Grow w6.drew W) => HR2.out.keeps (Below.keeps ((Below.refl w6.heap.size w6).drew.trans hR)))
  have HT3 := Lib.hid (fun (W : World) (hR : RegT.Grow w6.drew W) => HR3.out.keeps (Below.keeps ((Below.refl w6.heap.size w6).drew.trans hR)))
  have HT4 := Lib.hid (fun (W : World) (hR : RegT.Grow w6.drew W) => HR4.out.keeps (Below.keeps ((Below.refl w6.heap.size w6).drew.trans hR)))
  apply RegT.wp_region_T rfl 81 17 rfl (by kernel_rfl) RegT.Grow RegT.Grow.refl RegT.Grow.trans
  · apply RegT.T_pure rfl rfl rfl
    · intro W hR; clear hR; go_simp; rfl
    simp only [List.set_cons_succ, List.set_cons_zero, Nat.reduceAdd]
    apply RegT.T_pure (v := .bool true) rfl rfl rfl
    · intro W hR; clear hR; go_simp
    simp only [List.set_cons_succ, List.set_cons_zero, Nat.reduceAdd]
    apply RegT.T_pure (v := .bool true) rfl rfl rfl
    · intro W hR; clear hR; go_simp
    simp only [List.set_cons_succ, List.set_cons_zero, Nat.reduceAdd]
    apply RegT.T_pure rfl rfl rfl
    · intro W hR; clear hR; go_simp; rfl
    simp only [List.set_cons_succ, List.set_cons_zero, Nat.reduceAdd]
    apply RegT.T_pure (v := .bool true) rfl rfl rfl
    · intro W hR; clear hR; go_simp
    simp only [List.set_cons_succ, List.set_cons_zero, Nat.reduceAdd]
    apply RegT.T_pure (v := .bool true) rfl rfl rfl
    · intro W hR; clear hR; go_simp
    simp only [List.set_cons_succ, List.set_cons_zero, Nat.reduceAdd]
    apply RegT.T_pure (v := .bool true) rfl rfl rfl
    · intro W hR; clear hR; go_simp
    simp only [List.set_cons_succ, List.set_cons_zero, Nat.reduceAdd]
    apply RegT.T_pure rfl rfl rfl
    · intro W hR; clear hR; go_simp; rfl
    simp only [List.set_cons_succ, List.set_cons_zero, Nat.reduceAdd]
    apply RegT.T_pure (v := .string ⟨bx.toArray⟩) rfl rfl rfl
    · intro W hR
      have hc := run_convert_str (P := Try.prog) (HT1.out W hR) 39 5 9 Try.underlying39 Try.underlying5 Try.underlying9
      clear hR
      go_simp
    simp only [List.set_cons_succ, List.set_cons_zero, Nat.reduceAdd]
    apply RegT.T_pure rfl rfl rfl
    · intro W hR; clear hR; go_simp; rfl
    simp only [List.set_cons_succ, List.set_cons_zero, Nat.reduceAdd]
    apply RegT.T_pure (v := .string ⟨by'.toArray⟩) rfl rfl rfl
    · intro W hR
      have hc := run_convert_str (P := Try.prog) (HT2.out W hR) 39 5 9 Try.underlying39 Try.underlying5 Try.underlying9
      clear hR
      go_simp
    simp only [List.set_cons_succ, List.set_cons_zero, Nat.reduceAdd]
    apply RegT.T_pure (v := .bool true) rfl rfl rfl
    · intro W hR; clear hR; (go_simp; exact HI.out)
    simp only [List.set_cons_succ, List.set_cons_zero, Nat.reduceAdd]
    apply RegT.T_pure rfl rfl rfl
    · exact fun W hR => load_cc (.tmp 4) rfl rfl (HQ.out W hR).x hsx
    simp only [List.set_cons_succ, List.set_cons_zero, Nat.reduceAdd]
    apply RegT.T_pure rfl rfl rfl
    · exact fun W hR => load_cc (.tmp 5) rfl rfl (HQ.out W hR).y hsy
    simp only [List.set_cons_succ, List.set_cons_zero, Nat.reduceAdd]
    apply RegT.T_pure (v := .bool true) rfl rfl rfl
    · intro W hR; clear hR; (exact exec_eq30 (.tmp 56) (.tmp 57) rfl rfl rfl (HN.out.eq W))
    simp only [List.set_cons_succ, List.set_cons_zero, Nat.reduceAdd]
    apply RegT.T_pure (v := .bool false) rfl rfl rfl
    · intro W hR; clear hR; go_simp
    simp only [List.set_cons_succ, List.set_cons_zero, Nat.reduceAdd]
    apply RegT.T_pure (v := .bool false) rfl rfl rfl
    · intro W hR; clear hR; go_simp
    simp only [List.set_cons_succ, List.set_cons_zero, Nat.reduceAdd]
    refine RegT.T_end rfl (fun W7 hR hf => ?_)
    have HR1 := Lib.hid (HT1.out W7 hR)
    have HR2 := Lib.hid (HT2.out W7 hR)
    have HR3 := Lib.hid (HT3.out W7 hR)
    have HR4 := Lib.hid (HT4.out W7 hR)
    have HF := Lib.hid (HQ.out W7 hR)
    clear hR hf HQ HT1 HT2 HT3 HT4
    go_wp2
    have HQ := Lib.hid (fun (W : World) (hR : RegT.Grow W7.drew W) => HF.out.keep ((Below.refl W7.heap.size W7).drew.trans hR))
    have HT3 := Lib.hid (fun (W : World) (hR : RegT.Grow W7.drew W) => HR3.out.keeps (Below.keeps ((Below.refl W7.heap.size W7).drew.trans hR)))
    have HT4 := Lib.hid (fun (W : World) (hR : RegT.Grow W7.drew W) => HR4.out.keeps (Below.keeps ((Below.refl W7.heap.size W7).drew.trans hR)))
    apply RegT.wp_region_T rfl 81 21 rfl (by kernel_rfl) RegT.Grow RegT.Grow.refl RegT.Grow.trans
    · apply RegT.T_pure rfl rfl rfl
      · intro W hR; clear hR; go_simp; rfl
      simp only [List.set_cons_succ, List.set_cons_zero, Nat.reduceAdd]
      apply RegT.T_pure (v := .bool true) rfl rfl rfl
      · intro W hR; clear hR; go_simp
      simp only [List.set_cons_succ, List.set_cons_zero, Nat.reduceAdd]
      apply RegT.T_pure (v := .bool true) rfl rfl rfl
      · intro W hR; clear hR; go_simp
      simp only [List.set_cons_succ, List.set_cons_zero, Nat.reduceAdd]
      apply RegT.T_skip rfl rfl rfl
      simp only [List.set_cons_succ, List.set_cons_zero, Nat.reduceAdd]
      apply RegT.T_skip rfl rfl rfl
      simp only [List.set_cons_succ, List.set_cons_zero, Nat.reduceAdd]
      apply RegT.T_pure (v := .bool true) rfl rfl rfl
      · intro W hR; clear hR; go_simp
      simp only [List.set_cons_succ, List.set_cons_zero, Nat.reduceAdd]
      apply RegT.T_pure (v := .bool true) rfl rfl rfl
      · intro W hR; clear hR; go_simp
      simp only [List.set_cons_succ, List.set_cons_zero, Nat.reduceAdd]
      apply RegT.T_skip rfl rfl rfl
      simp only [List.set_cons_succ, List.set_cons_zero, Nat.reduceAdd]
      apply RegT.T_skip rfl rfl rfl
      simp only [List.set_cons_succ, List.set_cons_zero, Nat.reduceAdd]
      apply RegT.T_skip rfl rfl rfl
      simp only [List.set_cons_succ, List.set_cons_zero, Nat.reduceAdd]
      apply RegT.T_skip rfl rfl rfl
      simp only [List.set_cons_succ, List.set_cons_zero, Nat.reduceAdd]
      apply RegT.T_skip rfl rfl rfl
      simp only [List.set_cons_succ, List.set_cons_zero, Nat.reduceAdd]
      apply RegT.T_skip rfl rfl rfl
      simp only [List.set_cons_succ, List.set_cons_zero, Nat.reduceAdd]
      apply RegT.T_skip rfl rfl rfl
      simp only [List.set_cons_succ, List.set_cons_zero, Nat.reduceAdd]
      apply RegT.T_skip rfl rfl rfl
      simp only [List.set_cons_succ, List.set_cons_zero, Nat.reduceAdd]
      apply RegT.T_skip rfl rfl rfl
      simp only [List.set_cons_succ, List.set_cons_zero, Nat.reduceAdd]
      apply RegT.T_pure (v := .bool true) rfl rfl rfl
      · intro W hR; clear hR; go_simp
      simp only [List.set_cons_succ, List.set_cons_zero, Nat.reduceAdd]
      apply RegT.T_pure (v := .bool true) rfl rfl rfl
      · intro W hR; clear hR; go_simp
      simp only [List.set_cons_succ, List.set_cons_zero, Nat.reduceAdd]
      apply RegT.T_const rfl rfl rfl (.bool true) (fun _ _ h => h)
      · intro W hR hf
        have Hc := Lib.hid (known9_w W)
        clear hR hf
        go_simp
        exact RegT.OpOK_enter Hc.out (fun e w' h => ⟨_, h.1, rfl, h.2⟩)
      simp only [List.set_cons_succ, List.set_cons_zero, Nat.reduceAdd]
      apply RegT.T_pure (v := .bool true) rfl rfl rfl
      · intro W hR; clear hR; go_simp
      simp only [List.set_cons_succ, List.set_cons_zero, Nat.reduceAdd]
      apply RegT.T_pure rfl rfl rfl
      · intro W hR; clear hR; go_simp; rfl
      simp only [List.set_cons_succ, List.set_cons_zero, Nat.reduceAdd]
      refine RegT.T_end rfl (fun W9 hR hf => ?_)
      have HFz := Lib.hid (HQ.out W9 hR)
      clear hR hf HQ HT3 HT4
      go_wp2
      go_ret
      exact ⟨rfl, HFz.out.below⟩
    · rfl
    · kernel_rfl
  · rfl
  · kernel_rfl
set_option maxRecDepth 100000 in
set_option maxHeartbeats 6400000 in
theorem apart_21_w (w : World) (cx cy cr cs : Array Value) (ex ey er es : Int) (bx by' br bs : List UInt8) (sc sr : Bool) (hi : bx = by') (hj : es ≠ 0) (HC : ApC w cx cy cr cs false false 0 0 0 es bx by' br bs true sr) :
    Calls Try.prog 3 #[.agg cx, .agg cy, .agg cr, .agg cs] w fun e w' => e = .returned (.bool true) ∧ Below w.heap.size w w' := by
  have d2 : (es != 0) = true := by simp [hj]
  have HI := Lib.hid hi
  have HJ := Lib.hid hj
  clear hi hj
  obtain ⟨W0, hW0⟩ : ∃ W0, (((w.alloc (.cells cx 30)).alloc (.cells cy 30)).alloc (.cells cr 36)).alloc (.cells cs 36) = W0 := ⟨_, rfl⟩
  have HF := Lib.hid (show Four w W0 cx cy cr cs from by rw [← hW0]; exact Four.start w cx cy cr cs)
  have HW0 := Lib.hid hW0
  have hsx := HC.sx
  have hsy := HC.sy
  have hsr := HC.sR
  have hss := HC.sS
  have HN := Lib.hid HC
  clear HC hW0
  go_enter Try.func3, Try.ntmps3
  go_upto_region 1 with fail
  rw [HW0.out]
  go_wp2_with (first
    | (refine wpList_load_rr rfl (.tmp 6) rfl rfl HF.out.r hsr ?_)
    | (refine wpList_load_rr rfl (.tmp 7) rfl rfl HF.out.s hss ?_)
    | (refine wpList_load_cc rfl (.tmp 4) rfl rfl HF.out.x hsx ?_)
    | (refine wpList_load_cc rfl (.tmp 5) rfl rfl HF.out.y hsy ?_)
    | (go_at_call 8; first | ((with_reducible refine (HN.out.lR _ (Below.keeps HF.out.below)).mono ?_); rintro e w1 ⟨rfl, hB⟩; have HF := Lib.hid (HF.out.keep hB); clear hB) | ((with_reducible refine (HN.out.lS _ (Below.keeps HF.out.below)).mono ?_); rintro e w2 ⟨rfl, hB⟩; have HF := Lib.hid (HF.out.keep hB); clear hB))
    | (go_at_call 10; first | ((with_reducible refine (HN.out.bX _).mono ?_); rintro e w3 ⟨⟨p1, n1, c1, rfl, hr⟩, hB⟩; have HF := Lib.hid (HF.out.keep hB); have HR1 := Lib.hid hr; clear hB hr) | ((with_reducible refine (HN.out.bY _).mono ?_); rintro e w4 ⟨⟨p2, n2, c2, rfl, hr⟩, hB⟩; have HF := Lib.hid (HF.out.keep hB); have HR1 := Lib.hid (HR1.out.keeps (Below.keeps hB)); have HR2 := Lib.hid hr; clear hB hr))
    | (go_at_call 11; first | ((with_reducible refine (HN.out.bR _ (Below.keeps HF.out.below)).mono ?_); rintro e w5 ⟨⟨p3, n3, c3, rfl, hr⟩, hB⟩; have HF := Lib.hid (HF.out.keep hB); have HR1 := Lib.hid (HR1.out.keeps (Below.keeps hB)); have HR2 := Lib.hid (HR2.out.keeps (Below.keeps hB)); have HR3 := Lib.hid hr; clear hB hr) | ((with_reducible refine (HN.out.bS _ (Below.keeps HF.out.below)).mono ?_); rintro e w6 ⟨⟨p4, n4, c4, rfl, hr⟩, hB⟩; have HF := Lib.hid (HF.out.keep hB); have HR1 := Lib.hid (HR1.out.keeps (Below.keeps hB)); have HR2 := Lib.hid (HR2.out.keeps (Below.keeps hB)); have HR3 := Lib.hid (HR3.out.keeps (Below.keeps hB)); have HR4 := Lib.hid hr; clear hB hr)))
  have HQ := Lib.hid (fun (W : World) (hR : RegT.Grow w6.drew W) => HF.out.keep ((Below.refl w6.heap.size w6).drew.trans hR))
  have HT1 := Lib.hid (fun (W : World) (hR : RegT.Grow w6.drew W) => HR1.out.keeps (Below.keeps ((Below.refl w6.heap.size w6).drew.trans hR)))
  have HT2 := Lib.hid (fun (W : World) (hR : RegT.Grow w6.drew W) => HR2.out.keeps (Below.keeps ((Below.refl w6.heap.size w6).drew.trans hR)))
  have HT3 := Lib.hid (fun (W : World) (hR : RegT.Grow w6.drew W) => HR3.out.keeps (Below.keeps ((Below.refl w6.heap.size w6).drew.trans hR)))
  have HT4 := Lib.hid (fun (W : World) (hR : RegT.Grow w6.drew W) => HR4.out.keeps (Below.keeps ((Below.refl w6.heap.size w6).drew.trans hR)))
  apply RegT.wp_region_T rfl 81 17 rfl (by kernel_rfl) RegT.Grow RegT.Grow.refl RegT.Grow.trans
  · apply RegT.T_pure rfl rfl rfl
    · intro W hR; clear hR; go_simp; rfl
    simp only [List.set_cons_succ, List.set_cons_zero, Nat.reduceAdd]
    apply RegT.T_pure (v := .bool true) rfl rfl rfl
    · intro W hR; clear hR; go_simp
    simp only [List.set_cons_succ, List.set_cons_zero, Nat.reduceAdd]
    apply RegT.T_pure (v := .bool true) rfl rfl rfl
    · intro W hR; clear hR; go_simp
    simp only [List.set_cons_succ, List.set_cons_zero, Nat.reduceAdd]
    apply RegT.T_pure rfl rfl rfl
    · intro W hR; clear hR; go_simp; rfl
    simp only [List.set_cons_succ, List.set_cons_zero, Nat.reduceAdd]
    apply RegT.T_pure (v := .bool true) rfl rfl rfl
    · intro W hR; clear hR; go_simp
    simp only [List.set_cons_succ, List.set_cons_zero, Nat.reduceAdd]
    apply RegT.T_pure (v := .bool true) rfl rfl rfl
    · intro W hR; clear hR; go_simp
    simp only [List.set_cons_succ, List.set_cons_zero, Nat.reduceAdd]
    apply RegT.T_pure (v := .bool true) rfl rfl rfl
    · intro W hR; clear hR; go_simp
    simp only [List.set_cons_succ, List.set_cons_zero, Nat.reduceAdd]
    apply RegT.T_pure rfl rfl rfl
    · intro W hR; clear hR; go_simp; rfl
    simp only [List.set_cons_succ, List.set_cons_zero, Nat.reduceAdd]
    apply RegT.T_pure (v := .string ⟨bx.toArray⟩) rfl rfl rfl
    · intro W hR
      have hc := run_convert_str (P := Try.prog) (HT1.out W hR) 39 5 9 Try.underlying39 Try.underlying5 Try.underlying9
      clear hR
      go_simp
    simp only [List.set_cons_succ, List.set_cons_zero, Nat.reduceAdd]
    apply RegT.T_pure rfl rfl rfl
    · intro W hR; clear hR; go_simp; rfl
    simp only [List.set_cons_succ, List.set_cons_zero, Nat.reduceAdd]
    apply RegT.T_pure (v := .string ⟨by'.toArray⟩) rfl rfl rfl
    · intro W hR
      have hc := run_convert_str (P := Try.prog) (HT2.out W hR) 39 5 9 Try.underlying39 Try.underlying5 Try.underlying9
      clear hR
      go_simp
    simp only [List.set_cons_succ, List.set_cons_zero, Nat.reduceAdd]
    apply RegT.T_pure (v := .bool true) rfl rfl rfl
    · intro W hR; clear hR; (go_simp; exact HI.out)
    simp only [List.set_cons_succ, List.set_cons_zero, Nat.reduceAdd]
    apply RegT.T_pure rfl rfl rfl
    · exact fun W hR => load_cc (.tmp 4) rfl rfl (HQ.out W hR).x hsx
    simp only [List.set_cons_succ, List.set_cons_zero, Nat.reduceAdd]
    apply RegT.T_pure rfl rfl rfl
    · exact fun W hR => load_cc (.tmp 5) rfl rfl (HQ.out W hR).y hsy
    simp only [List.set_cons_succ, List.set_cons_zero, Nat.reduceAdd]
    apply RegT.T_pure (v := .bool true) rfl rfl rfl
    · intro W hR; clear hR; (exact exec_eq30 (.tmp 56) (.tmp 57) rfl rfl rfl (HN.out.eq W))
    simp only [List.set_cons_succ, List.set_cons_zero, Nat.reduceAdd]
    apply RegT.T_pure (v := .bool false) rfl rfl rfl
    · intro W hR; clear hR; go_simp
    simp only [List.set_cons_succ, List.set_cons_zero, Nat.reduceAdd]
    apply RegT.T_pure (v := .bool false) rfl rfl rfl
    · intro W hR; clear hR; go_simp
    simp only [List.set_cons_succ, List.set_cons_zero, Nat.reduceAdd]
    refine RegT.T_end rfl (fun W7 hR hf => ?_)
    have HR1 := Lib.hid (HT1.out W7 hR)
    have HR2 := Lib.hid (HT2.out W7 hR)
    have HR3 := Lib.hid (HT3.out W7 hR)
    have HR4 := Lib.hid (HT4.out W7 hR)
    have HF := Lib.hid (HQ.out W7 hR)
    clear hR hf HQ HT1 HT2 HT3 HT4
    go_wp2
    have HQ := Lib.hid (fun (W : World) (hR : RegT.Grow W7.drew W) => HF.out.keep ((Below.refl W7.heap.size W7).drew.trans hR))
    have HT3 := Lib.hid (fun (W : World) (hR : RegT.Grow W7.drew W) => HR3.out.keeps (Below.keeps ((Below.refl W7.heap.size W7).drew.trans hR)))
    have HT4 := Lib.hid (fun (W : World) (hR : RegT.Grow W7.drew W) => HR4.out.keeps (Below.keeps ((Below.refl W7.heap.size W7).drew.trans hR)))
    apply RegT.wp_region_T rfl 81 21 rfl (by kernel_rfl) RegT.Grow RegT.Grow.refl RegT.Grow.trans
    · apply RegT.T_pure rfl rfl rfl
      · intro W hR; clear hR; go_simp; rfl
      simp only [List.set_cons_succ, List.set_cons_zero, Nat.reduceAdd]
      apply RegT.T_pure (v := .bool false) rfl rfl rfl
      · intro W hR; clear hR; go_simp
      simp only [List.set_cons_succ, List.set_cons_zero, Nat.reduceAdd]
      apply RegT.T_pure (v := .bool false) rfl rfl rfl
      · intro W hR; clear hR; go_simp
      simp only [List.set_cons_succ, List.set_cons_zero, Nat.reduceAdd]
      apply RegT.T_pure rfl rfl rfl
      · intro W hR; clear hR; go_simp; rfl
      simp only [List.set_cons_succ, List.set_cons_zero, Nat.reduceAdd]
      apply RegT.T_pure (v := .bool true) rfl rfl rfl
      · intro W hR; clear hR; go_simp
      simp only [List.set_cons_succ, List.set_cons_zero, Nat.reduceAdd]
      apply RegT.T_pure (v := .bool true) rfl rfl rfl
      · intro W hR; clear hR; go_simp
      simp only [List.set_cons_succ, List.set_cons_zero, Nat.reduceAdd]
      apply RegT.T_pure (v := .bool true) rfl rfl rfl
      · intro W hR; clear hR; go_simp
      simp only [List.set_cons_succ, List.set_cons_zero, Nat.reduceAdd]
      apply RegT.T_skip rfl rfl rfl
      simp only [List.set_cons_succ, List.set_cons_zero, Nat.reduceAdd]
      apply RegT.T_skip rfl rfl rfl
      simp only [List.set_cons_succ, List.set_cons_zero, Nat.reduceAdd]
      apply RegT.T_skip rfl rfl rfl
      simp only [List.set_cons_succ, List.set_cons_zero, Nat.reduceAdd]
      apply RegT.T_skip rfl rfl rfl
      simp only [List.set_cons_succ, List.set_cons_zero, Nat.reduceAdd]
      apply RegT.T_skip rfl rfl rfl
      simp only [List.set_cons_succ, List.set_cons_zero, Nat.reduceAdd]
      apply RegT.T_skip rfl rfl rfl
      simp only [List.set_cons_succ, List.set_cons_zero, Nat.reduceAdd]
      apply RegT.T_skip rfl rfl rfl
      simp only [List.set_cons_succ, List.set_cons_zero, Nat.reduceAdd]
      apply RegT.T_skip rfl rfl rfl
      simp only [List.set_cons_succ, List.set_cons_zero, Nat.reduceAdd]
      apply RegT.T_skip rfl rfl rfl
      simp only [List.set_cons_succ, List.set_cons_zero, Nat.reduceAdd]
      apply RegT.T_pure (v := .bool true) rfl rfl rfl
      · intro W hR; clear hR; go_simp
      simp only [List.set_cons_succ, List.set_cons_zero, Nat.reduceAdd]
      apply RegT.T_pure (v := .bool true) rfl rfl rfl
      · intro W hR; clear hR; go_simp
      simp only [List.set_cons_succ, List.set_cons_zero, Nat.reduceAdd]
      apply RegT.T_const rfl rfl rfl (.bool true) (fun _ _ h => h)
      · intro W hR hf
        have Hc := Lib.hid (known9_w W)
        clear hR hf
        go_simp
        exact RegT.OpOK_enter Hc.out (fun e w' h => ⟨_, h.1, rfl, h.2⟩)
      simp only [List.set_cons_succ, List.set_cons_zero, Nat.reduceAdd]
      apply RegT.T_pure (v := .bool true) rfl rfl rfl
      · intro W hR; clear hR; go_simp
      simp only [List.set_cons_succ, List.set_cons_zero, Nat.reduceAdd]
      apply RegT.T_pure rfl rfl rfl
      · intro W hR; clear hR; go_simp; rfl
      simp only [List.set_cons_succ, List.set_cons_zero, Nat.reduceAdd]
      refine RegT.T_end rfl (fun W9 hR hf => ?_)
      have HFz := Lib.hid (HQ.out W9 hR)
      clear hR hf HQ HT3 HT4
      go_wp2
      go_ret
      exact ⟨rfl, HFz.out.below⟩
    · rfl
    · kernel_rfl
  · rfl
  · kernel_rfl
set_option maxRecDepth 100000 in
set_option maxHeartbeats 6400000 in
theorem apart_22_w (w : World) (cx cy cr cs : Array Value) (ex ey er es : Int) (bx by' br bs : List UInt8) (sc sr : Bool) (hi : bx = by') (hj : br = bs) (HC : ApC w cx cy cr cs false false 0 0 0 0 bx by' br bs true true) :
    Calls Try.prog 3 #[.agg cx, .agg cy, .agg cr, .agg cs] w fun e w' => e = .returned (.bool true) ∧ Below w.heap.size w w' := by
  have HI := Lib.hid hi
  have HJ := Lib.hid hj
  clear hi hj
  obtain ⟨W0, hW0⟩ : ∃ W0, (((w.alloc (.cells cx 30)).alloc (.cells cy 30)).alloc (.cells cr 36)).alloc (.cells cs 36) = W0 := ⟨_, rfl⟩
  have HF := Lib.hid (show Four w W0 cx cy cr cs from by rw [← hW0]; exact Four.start w cx cy cr cs)
  have HW0 := Lib.hid hW0
  have hsx := HC.sx
  have hsy := HC.sy
  have hsr := HC.sR
  have hss := HC.sS
  have HN := Lib.hid HC
  clear HC hW0
  go_enter Try.func3, Try.ntmps3
  go_upto_region 1 with fail
  rw [HW0.out]
  go_wp2_with (first
    | (refine wpList_load_rr rfl (.tmp 6) rfl rfl HF.out.r hsr ?_)
    | (refine wpList_load_rr rfl (.tmp 7) rfl rfl HF.out.s hss ?_)
    | (refine wpList_load_cc rfl (.tmp 4) rfl rfl HF.out.x hsx ?_)
    | (refine wpList_load_cc rfl (.tmp 5) rfl rfl HF.out.y hsy ?_)
    | (go_at_call 8; first | ((with_reducible refine (HN.out.lR _ (Below.keeps HF.out.below)).mono ?_); rintro e w1 ⟨rfl, hB⟩; have HF := Lib.hid (HF.out.keep hB); clear hB) | ((with_reducible refine (HN.out.lS _ (Below.keeps HF.out.below)).mono ?_); rintro e w2 ⟨rfl, hB⟩; have HF := Lib.hid (HF.out.keep hB); clear hB))
    | (go_at_call 10; first | ((with_reducible refine (HN.out.bX _).mono ?_); rintro e w3 ⟨⟨p1, n1, c1, rfl, hr⟩, hB⟩; have HF := Lib.hid (HF.out.keep hB); have HR1 := Lib.hid hr; clear hB hr) | ((with_reducible refine (HN.out.bY _).mono ?_); rintro e w4 ⟨⟨p2, n2, c2, rfl, hr⟩, hB⟩; have HF := Lib.hid (HF.out.keep hB); have HR1 := Lib.hid (HR1.out.keeps (Below.keeps hB)); have HR2 := Lib.hid hr; clear hB hr))
    | (go_at_call 11; first | ((with_reducible refine (HN.out.bR _ (Below.keeps HF.out.below)).mono ?_); rintro e w5 ⟨⟨p3, n3, c3, rfl, hr⟩, hB⟩; have HF := Lib.hid (HF.out.keep hB); have HR1 := Lib.hid (HR1.out.keeps (Below.keeps hB)); have HR2 := Lib.hid (HR2.out.keeps (Below.keeps hB)); have HR3 := Lib.hid hr; clear hB hr) | ((with_reducible refine (HN.out.bS _ (Below.keeps HF.out.below)).mono ?_); rintro e w6 ⟨⟨p4, n4, c4, rfl, hr⟩, hB⟩; have HF := Lib.hid (HF.out.keep hB); have HR1 := Lib.hid (HR1.out.keeps (Below.keeps hB)); have HR2 := Lib.hid (HR2.out.keeps (Below.keeps hB)); have HR3 := Lib.hid (HR3.out.keeps (Below.keeps hB)); have HR4 := Lib.hid hr; clear hB hr)))
  have HQ := Lib.hid (fun (W : World) (hR : RegT.Grow w6.drew W) => HF.out.keep ((Below.refl w6.heap.size w6).drew.trans hR))
  have HT1 := Lib.hid (fun (W : World) (hR : RegT.Grow w6.drew W) => HR1.out.keeps (Below.keeps ((Below.refl w6.heap.size w6).drew.trans hR)))
  have HT2 := Lib.hid (fun (W : World) (hR : RegT.Grow w6.drew W) => HR2.out.keeps (Below.keeps ((Below.refl w6.heap.size w6).drew.trans hR)))
  have HT3 := Lib.hid (fun (W : World) (hR : RegT.Grow w6.drew W) => HR3.out.keeps (Below.keeps ((Below.refl w6.heap.size w6).drew.trans hR)))
  have HT4 := Lib.hid (fun (W : World) (hR : RegT.Grow w6.drew W) => HR4.out.keeps (Below.keeps ((Below.refl w6.heap.size w6).drew.trans hR)))
  apply RegT.wp_region_T rfl 81 17 rfl (by kernel_rfl) RegT.Grow RegT.Grow.refl RegT.Grow.trans
  · apply RegT.T_pure rfl rfl rfl
    · intro W hR; clear hR; go_simp; rfl
    simp only [List.set_cons_succ, List.set_cons_zero, Nat.reduceAdd]
    apply RegT.T_pure (v := .bool true) rfl rfl rfl
    · intro W hR; clear hR; go_simp
    simp only [List.set_cons_succ, List.set_cons_zero, Nat.reduceAdd]
    apply RegT.T_pure (v := .bool true) rfl rfl rfl
    · intro W hR; clear hR; go_simp
    simp only [List.set_cons_succ, List.set_cons_zero, Nat.reduceAdd]
    apply RegT.T_pure rfl rfl rfl
    · intro W hR; clear hR; go_simp; rfl
    simp only [List.set_cons_succ, List.set_cons_zero, Nat.reduceAdd]
    apply RegT.T_pure (v := .bool true) rfl rfl rfl
    · intro W hR; clear hR; go_simp
    simp only [List.set_cons_succ, List.set_cons_zero, Nat.reduceAdd]
    apply RegT.T_pure (v := .bool true) rfl rfl rfl
    · intro W hR; clear hR; go_simp
    simp only [List.set_cons_succ, List.set_cons_zero, Nat.reduceAdd]
    apply RegT.T_pure (v := .bool true) rfl rfl rfl
    · intro W hR; clear hR; go_simp
    simp only [List.set_cons_succ, List.set_cons_zero, Nat.reduceAdd]
    apply RegT.T_pure rfl rfl rfl
    · intro W hR; clear hR; go_simp; rfl
    simp only [List.set_cons_succ, List.set_cons_zero, Nat.reduceAdd]
    apply RegT.T_pure (v := .string ⟨bx.toArray⟩) rfl rfl rfl
    · intro W hR
      have hc := run_convert_str (P := Try.prog) (HT1.out W hR) 39 5 9 Try.underlying39 Try.underlying5 Try.underlying9
      clear hR
      go_simp
    simp only [List.set_cons_succ, List.set_cons_zero, Nat.reduceAdd]
    apply RegT.T_pure rfl rfl rfl
    · intro W hR; clear hR; go_simp; rfl
    simp only [List.set_cons_succ, List.set_cons_zero, Nat.reduceAdd]
    apply RegT.T_pure (v := .string ⟨by'.toArray⟩) rfl rfl rfl
    · intro W hR
      have hc := run_convert_str (P := Try.prog) (HT2.out W hR) 39 5 9 Try.underlying39 Try.underlying5 Try.underlying9
      clear hR
      go_simp
    simp only [List.set_cons_succ, List.set_cons_zero, Nat.reduceAdd]
    apply RegT.T_pure (v := .bool true) rfl rfl rfl
    · intro W hR; clear hR; (go_simp; exact HI.out)
    simp only [List.set_cons_succ, List.set_cons_zero, Nat.reduceAdd]
    apply RegT.T_pure rfl rfl rfl
    · exact fun W hR => load_cc (.tmp 4) rfl rfl (HQ.out W hR).x hsx
    simp only [List.set_cons_succ, List.set_cons_zero, Nat.reduceAdd]
    apply RegT.T_pure rfl rfl rfl
    · exact fun W hR => load_cc (.tmp 5) rfl rfl (HQ.out W hR).y hsy
    simp only [List.set_cons_succ, List.set_cons_zero, Nat.reduceAdd]
    apply RegT.T_pure (v := .bool true) rfl rfl rfl
    · intro W hR; clear hR; (exact exec_eq30 (.tmp 56) (.tmp 57) rfl rfl rfl (HN.out.eq W))
    simp only [List.set_cons_succ, List.set_cons_zero, Nat.reduceAdd]
    apply RegT.T_pure (v := .bool false) rfl rfl rfl
    · intro W hR; clear hR; go_simp
    simp only [List.set_cons_succ, List.set_cons_zero, Nat.reduceAdd]
    apply RegT.T_pure (v := .bool false) rfl rfl rfl
    · intro W hR; clear hR; go_simp
    simp only [List.set_cons_succ, List.set_cons_zero, Nat.reduceAdd]
    refine RegT.T_end rfl (fun W7 hR hf => ?_)
    have HR1 := Lib.hid (HT1.out W7 hR)
    have HR2 := Lib.hid (HT2.out W7 hR)
    have HR3 := Lib.hid (HT3.out W7 hR)
    have HR4 := Lib.hid (HT4.out W7 hR)
    have HF := Lib.hid (HQ.out W7 hR)
    clear hR hf HQ HT1 HT2 HT3 HT4
    go_wp2
    have HQ := Lib.hid (fun (W : World) (hR : RegT.Grow W7.drew W) => HF.out.keep ((Below.refl W7.heap.size W7).drew.trans hR))
    have HT3 := Lib.hid (fun (W : World) (hR : RegT.Grow W7.drew W) => HR3.out.keeps (Below.keeps ((Below.refl W7.heap.size W7).drew.trans hR)))
    have HT4 := Lib.hid (fun (W : World) (hR : RegT.Grow W7.drew W) => HR4.out.keeps (Below.keeps ((Below.refl W7.heap.size W7).drew.trans hR)))
    apply RegT.wp_region_T rfl 81 21 rfl (by kernel_rfl) RegT.Grow RegT.Grow.refl RegT.Grow.trans
    · apply RegT.T_pure rfl rfl rfl
      · intro W hR; clear hR; go_simp; rfl
      simp only [List.set_cons_succ, List.set_cons_zero, Nat.reduceAdd]
      apply RegT.T_pure (v := .bool false) rfl rfl rfl
      · intro W hR; clear hR; go_simp
      simp only [List.set_cons_succ, List.set_cons_zero, Nat.reduceAdd]
      apply RegT.T_pure (v := .bool false) rfl rfl rfl
      · intro W hR; clear hR; go_simp
      simp only [List.set_cons_succ, List.set_cons_zero, Nat.reduceAdd]
      apply RegT.T_pure rfl rfl rfl
      · intro W hR; clear hR; go_simp; rfl
      simp only [List.set_cons_succ, List.set_cons_zero, Nat.reduceAdd]
      apply RegT.T_pure (v := .bool false) rfl rfl rfl
      · intro W hR; clear hR; go_simp
      simp only [List.set_cons_succ, List.set_cons_zero, Nat.reduceAdd]
      apply RegT.T_pure (v := .bool false) rfl rfl rfl
      · intro W hR; clear hR; go_simp
      simp only [List.set_cons_succ, List.set_cons_zero, Nat.reduceAdd]
      apply RegT.T_pure (v := .bool false) rfl rfl rfl
      · intro W hR; clear hR; go_simp
      simp only [List.set_cons_succ, List.set_cons_zero, Nat.reduceAdd]
      apply RegT.T_pure rfl rfl rfl
      · intro W hR; clear hR; go_simp; rfl
      simp only [List.set_cons_succ, List.set_cons_zero, Nat.reduceAdd]
      apply RegT.T_pure (v := .string ⟨br.toArray⟩) rfl rfl rfl
      · intro W hR
        have hc := run_convert_str (P := Try.prog) (HT3.out W hR) 39 5 9 Try.underlying39 Try.underlying5 Try.underlying9
        clear hR
        go_simp
      simp only [List.set_cons_succ, List.set_cons_zero, Nat.reduceAdd]
      apply RegT.T_pure rfl rfl rfl
      · intro W hR; clear hR; go_simp; rfl
      simp only [List.set_cons_succ, List.set_cons_zero, Nat.reduceAdd]
      apply RegT.T_pure (v := .string ⟨bs.toArray⟩) rfl rfl rfl
      · intro W hR
        have hc := run_convert_str (P := Try.prog) (HT4.out W hR) 39 5 9 Try.underlying39 Try.underlying5 Try.underlying9
        clear hR
        go_simp
      simp only [List.set_cons_succ, List.set_cons_zero, Nat.reduceAdd]
      apply RegT.T_pure (v := .bool true) rfl rfl rfl
      · intro W hR; clear hR; (go_simp; exact HJ.out)
      simp only [List.set_cons_succ, List.set_cons_zero, Nat.reduceAdd]
      apply RegT.T_pure rfl rfl rfl
      · exact fun W hR => load_rr (.tmp 6) rfl rfl (HQ.out W hR).r hsr
      simp only [List.set_cons_succ, List.set_cons_zero, Nat.reduceAdd]
      apply RegT.T_pure rfl rfl rfl
      · exact fun W hR => load_rr (.tmp 7) rfl rfl (HQ.out W hR).s hss
      simp only [List.set_cons_succ, List.set_cons_zero, Nat.reduceAdd]
      apply RegT.T_const rfl rfl rfl (.bool true) (fun _ _ h => h)
      · intro W hR hf
        have Hc := Lib.hid (HN.out.sm W (Below.keeps (HQ.out W hR).below))
        clear hR hf
        go_simp
        exact RegT.OpOK_enter Hc.out (fun e w' h => ⟨_, h.1, rfl, h.2⟩)
      simp only [List.set_cons_succ, List.set_cons_zero, Nat.reduceAdd]
      apply RegT.T_pure (v := .bool true) rfl rfl rfl
      · intro W hR; clear hR; go_simp
      simp only [List.set_cons_succ, List.set_cons_zero, Nat.reduceAdd]
      apply RegT.T_pure (v := .bool true) rfl rfl rfl
      · intro W hR; clear hR; go_simp
      simp only [List.set_cons_succ, List.set_cons_zero, Nat.reduceAdd]
      apply RegT.T_pure (v := .bool true) rfl rfl rfl
      · intro W hR; clear hR; go_simp
      simp only [List.set_cons_succ, List.set_cons_zero, Nat.reduceAdd]
      apply RegT.T_const rfl rfl rfl (.bool true) (fun _ _ h => h)
      · intro W hR hf
        have Hc := Lib.hid (known9_w W)
        clear hR hf
        go_simp
        exact RegT.OpOK_enter Hc.out (fun e w' h => ⟨_, h.1, rfl, h.2⟩)
      simp only [List.set_cons_succ, List.set_cons_zero, Nat.reduceAdd]
      apply RegT.T_pure (v := .bool true) rfl rfl rfl
      · intro W hR; clear hR; go_simp
      simp only [List.set_cons_succ, List.set_cons_zero, Nat.reduceAdd]
      apply RegT.T_pure rfl rfl rfl
      · intro W hR; clear hR; go_simp; rfl
      simp only [List.set_cons_succ, List.set_cons_zero, Nat.reduceAdd]
      refine RegT.T_end rfl (fun W9 hR hf => ?_)
      have HFz := Lib.hid (HQ.out W9 hR)
      clear hR hf HQ HT3 HT4
      go_wp2
      go_ret
      exact ⟨rfl, HFz.out.below⟩
    · rfl
    · kernel_rfl
  · rfl
  · kernel_rfl
set_option maxRecDepth 100000 in
set_option maxHeartbeats 6400000 in
theorem apart_23_w (w : World) (cx cy cr cs : Array Value) (ex ey er es : Int) (bx by' br bs : List UInt8) (sc sr : Bool) (hi : bx = by') (hj : br ≠ bs) (HC : ApC w cx cy cr cs false false 0 0 0 0 bx by' br bs true false) :
    Calls Try.prog 3 #[.agg cx, .agg cy, .agg cr, .agg cs] w fun e w' => e = .returned (.bool true) ∧ Below w.heap.size w w' := by
  have HI := Lib.hid hi
  have HJ := Lib.hid hj
  clear hi hj
  obtain ⟨W0, hW0⟩ : ∃ W0, (((w.alloc (.cells cx 30)).alloc (.cells cy 30)).alloc (.cells cr 36)).alloc (.cells cs 36) = W0 := ⟨_, rfl⟩
  have HF := Lib.hid (show Four w W0 cx cy cr cs from by rw [← hW0]; exact Four.start w cx cy cr cs)
  have HW0 := Lib.hid hW0
  have hsx := HC.sx
  have hsy := HC.sy
  have hsr := HC.sR
  have hss := HC.sS
  have HN := Lib.hid HC
  clear HC hW0
  go_enter Try.func3, Try.ntmps3
  go_upto_region 1 with fail
  rw [HW0.out]
  go_wp2_with (first
    | (refine wpList_load_rr rfl (.tmp 6) rfl rfl HF.out.r hsr ?_)
    | (refine wpList_load_rr rfl (.tmp 7) rfl rfl HF.out.s hss ?_)
    | (refine wpList_load_cc rfl (.tmp 4) rfl rfl HF.out.x hsx ?_)
    | (refine wpList_load_cc rfl (.tmp 5) rfl rfl HF.out.y hsy ?_)
    | (go_at_call 8; first | ((with_reducible refine (HN.out.lR _ (Below.keeps HF.out.below)).mono ?_); rintro e w1 ⟨rfl, hB⟩; have HF := Lib.hid (HF.out.keep hB); clear hB) | ((with_reducible refine (HN.out.lS _ (Below.keeps HF.out.below)).mono ?_); rintro e w2 ⟨rfl, hB⟩; have HF := Lib.hid (HF.out.keep hB); clear hB))
    | (go_at_call 10; first | ((with_reducible refine (HN.out.bX _).mono ?_); rintro e w3 ⟨⟨p1, n1, c1, rfl, hr⟩, hB⟩; have HF := Lib.hid (HF.out.keep hB); have HR1 := Lib.hid hr; clear hB hr) | ((with_reducible refine (HN.out.bY _).mono ?_); rintro e w4 ⟨⟨p2, n2, c2, rfl, hr⟩, hB⟩; have HF := Lib.hid (HF.out.keep hB); have HR1 := Lib.hid (HR1.out.keeps (Below.keeps hB)); have HR2 := Lib.hid hr; clear hB hr))
    | (go_at_call 11; first | ((with_reducible refine (HN.out.bR _ (Below.keeps HF.out.below)).mono ?_); rintro e w5 ⟨⟨p3, n3, c3, rfl, hr⟩, hB⟩; have HF := Lib.hid (HF.out.keep hB); have HR1 := Lib.hid (HR1.out.keeps (Below.keeps hB)); have HR2 := Lib.hid (HR2.out.keeps (Below.keeps hB)); have HR3 := Lib.hid hr; clear hB hr) | ((with_reducible refine (HN.out.bS _ (Below.keeps HF.out.below)).mono ?_); rintro e w6 ⟨⟨p4, n4, c4, rfl, hr⟩, hB⟩; have HF := Lib.hid (HF.out.keep hB); have HR1 := Lib.hid (HR1.out.keeps (Below.keeps hB)); have HR2 := Lib.hid (HR2.out.keeps (Below.keeps hB)); have HR3 := Lib.hid (HR3.out.keeps (Below.keeps hB)); have HR4 := Lib.hid hr; clear hB hr)))
  have HQ := Lib.hid (fun (W : World) (hR : RegT.Grow w6.drew W) => HF.out.keep ((Below.refl w6.heap.size w6).drew.trans hR))
  have HT1 := Lib.hid (fun (W : World) (hR : RegT.Grow w6.drew W) => HR1.out.keeps (Below.keeps ((Below.refl w6.heap.size w6).drew.trans hR)))
  have HT2 := Lib.hid (fun (W : World) (hR : RegT.Grow w6.drew W) => HR2.out.keeps (Below.keeps ((Below.refl w6.heap.size w6).drew.trans hR)))
  have HT3 := Lib.hid (fun (W : World) (hR : RegT.Grow w6.drew W) => HR3.out.keeps (Below.keeps ((Below.refl w6.heap.size w6).drew.trans hR)))
  have HT4 := Lib.hid (fun (W : World) (hR : RegT.Grow w6.drew W) => HR4.out.keeps (Below.keeps ((Below.refl w6.heap.size w6).drew.trans hR)))
  apply RegT.wp_region_T rfl 81 17 rfl (by kernel_rfl) RegT.Grow RegT.Grow.refl RegT.Grow.trans
  · apply RegT.T_pure rfl rfl rfl
    · intro W hR; clear hR; go_simp; rfl
    simp only [List.set_cons_succ, List.set_cons_zero, Nat.reduceAdd]
    apply RegT.T_pure (v := .bool true) rfl rfl rfl
    · intro W hR; clear hR; go_simp
    simp only [List.set_cons_succ, List.set_cons_zero, Nat.reduceAdd]
    apply RegT.T_pure (v := .bool true) rfl rfl rfl
    · intro W hR; clear hR; go_simp
    simp only [List.set_cons_succ, List.set_cons_zero, Nat.reduceAdd]
    apply RegT.T_pure rfl rfl rfl
    · intro W hR; clear hR; go_simp; rfl
    simp only [List.set_cons_succ, List.set_cons_zero, Nat.reduceAdd]
    apply RegT.T_pure (v := .bool true) rfl rfl rfl
    · intro W hR; clear hR; go_simp
    simp only [List.set_cons_succ, List.set_cons_zero, Nat.reduceAdd]
    apply RegT.T_pure (v := .bool true) rfl rfl rfl
    · intro W hR; clear hR; go_simp
    simp only [List.set_cons_succ, List.set_cons_zero, Nat.reduceAdd]
    apply RegT.T_pure (v := .bool true) rfl rfl rfl
    · intro W hR; clear hR; go_simp
    simp only [List.set_cons_succ, List.set_cons_zero, Nat.reduceAdd]
    apply RegT.T_pure rfl rfl rfl
    · intro W hR; clear hR; go_simp; rfl
    simp only [List.set_cons_succ, List.set_cons_zero, Nat.reduceAdd]
    apply RegT.T_pure (v := .string ⟨bx.toArray⟩) rfl rfl rfl
    · intro W hR
      have hc := run_convert_str (P := Try.prog) (HT1.out W hR) 39 5 9 Try.underlying39 Try.underlying5 Try.underlying9
      clear hR
      go_simp
    simp only [List.set_cons_succ, List.set_cons_zero, Nat.reduceAdd]
    apply RegT.T_pure rfl rfl rfl
    · intro W hR; clear hR; go_simp; rfl
    simp only [List.set_cons_succ, List.set_cons_zero, Nat.reduceAdd]
    apply RegT.T_pure (v := .string ⟨by'.toArray⟩) rfl rfl rfl
    · intro W hR
      have hc := run_convert_str (P := Try.prog) (HT2.out W hR) 39 5 9 Try.underlying39 Try.underlying5 Try.underlying9
      clear hR
      go_simp
    simp only [List.set_cons_succ, List.set_cons_zero, Nat.reduceAdd]
    apply RegT.T_pure (v := .bool true) rfl rfl rfl
    · intro W hR; clear hR; (go_simp; exact HI.out)
    simp only [List.set_cons_succ, List.set_cons_zero, Nat.reduceAdd]
    apply RegT.T_pure rfl rfl rfl
    · exact fun W hR => load_cc (.tmp 4) rfl rfl (HQ.out W hR).x hsx
    simp only [List.set_cons_succ, List.set_cons_zero, Nat.reduceAdd]
    apply RegT.T_pure rfl rfl rfl
    · exact fun W hR => load_cc (.tmp 5) rfl rfl (HQ.out W hR).y hsy
    simp only [List.set_cons_succ, List.set_cons_zero, Nat.reduceAdd]
    apply RegT.T_pure (v := .bool true) rfl rfl rfl
    · intro W hR; clear hR; (exact exec_eq30 (.tmp 56) (.tmp 57) rfl rfl rfl (HN.out.eq W))
    simp only [List.set_cons_succ, List.set_cons_zero, Nat.reduceAdd]
    apply RegT.T_pure (v := .bool false) rfl rfl rfl
    · intro W hR; clear hR; go_simp
    simp only [List.set_cons_succ, List.set_cons_zero, Nat.reduceAdd]
    apply RegT.T_pure (v := .bool false) rfl rfl rfl
    · intro W hR; clear hR; go_simp
    simp only [List.set_cons_succ, List.set_cons_zero, Nat.reduceAdd]
    refine RegT.T_end rfl (fun W7 hR hf => ?_)
    have HR1 := Lib.hid (HT1.out W7 hR)
    have HR2 := Lib.hid (HT2.out W7 hR)
    have HR3 := Lib.hid (HT3.out W7 hR)
    have HR4 := Lib.hid (HT4.out W7 hR)
    have HF := Lib.hid (HQ.out W7 hR)
    clear hR hf HQ HT1 HT2 HT3 HT4
    go_wp2
    have HQ := Lib.hid (fun (W : World) (hR : RegT.Grow W7.drew W) => HF.out.keep ((Below.refl W7.heap.size W7).drew.trans hR))
    have HT3 := Lib.hid (fun (W : World) (hR : RegT.Grow W7.drew W) => HR3.out.keeps (Below.keeps ((Below.refl W7.heap.size W7).drew.trans hR)))
    have HT4 := Lib.hid (fun (W : World) (hR : RegT.Grow W7.drew W) => HR4.out.keeps (Below.keeps ((Below.refl W7.heap.size W7).drew.trans hR)))
    apply RegT.wp_region_T rfl 81 21 rfl (by kernel_rfl) RegT.Grow RegT.Grow.refl RegT.Grow.trans
    · apply RegT.T_pure rfl rfl rfl
      · intro W hR; clear hR; go_simp; rfl
      simp only [List.set_cons_succ, List.set_cons_zero, Nat.reduceAdd]
      apply RegT.T_pure (v := .bool false) rfl rfl rfl
      · intro W hR; clear hR; go_simp
      simp only [List.set_cons_succ, List.set_cons_zero, Nat.reduceAdd]
      apply RegT.T_pure (v := .bool false) rfl rfl rfl
      · intro W hR; clear hR; go_simp
      simp only [List.set_cons_succ, List.set_cons_zero, Nat.reduceAdd]
      apply RegT.T_pure rfl rfl rfl
      · intro W hR; clear hR; go_simp; rfl
      simp only [List.set_cons_succ, List.set_cons_zero, Nat.reduceAdd]
      apply RegT.T_pure (v := .bool false) rfl rfl rfl
      · intro W hR; clear hR; go_simp
      simp only [List.set_cons_succ, List.set_cons_zero, Nat.reduceAdd]
      apply RegT.T_pure (v := .bool false) rfl rfl rfl
      · intro W hR; clear hR; go_simp
      simp only [List.set_cons_succ, List.set_cons_zero, Nat.reduceAdd]
      apply RegT.T_pure (v := .bool false) rfl rfl rfl
      · intro W hR; clear hR; go_simp
      simp only [List.set_cons_succ, List.set_cons_zero, Nat.reduceAdd]
      apply RegT.T_pure rfl rfl rfl
      · intro W hR; clear hR; go_simp; rfl
      simp only [List.set_cons_succ, List.set_cons_zero, Nat.reduceAdd]
      apply RegT.T_pure (v := .string ⟨br.toArray⟩) rfl rfl rfl
      · intro W hR
        have hc := run_convert_str (P := Try.prog) (HT3.out W hR) 39 5 9 Try.underlying39 Try.underlying5 Try.underlying9
        clear hR
        go_simp
      simp only [List.set_cons_succ, List.set_cons_zero, Nat.reduceAdd]
      apply RegT.T_pure rfl rfl rfl
      · intro W hR; clear hR; go_simp; rfl
      simp only [List.set_cons_succ, List.set_cons_zero, Nat.reduceAdd]
      apply RegT.T_pure (v := .string ⟨bs.toArray⟩) rfl rfl rfl
      · intro W hR
        have hc := run_convert_str (P := Try.prog) (HT4.out W hR) 39 5 9 Try.underlying39 Try.underlying5 Try.underlying9
        clear hR
        go_simp
      simp only [List.set_cons_succ, List.set_cons_zero, Nat.reduceAdd]
      apply RegT.T_pure (v := .bool false) rfl rfl rfl
      · intro W hR; clear hR; (go_simp; exact HJ.out)
      simp only [List.set_cons_succ, List.set_cons_zero, Nat.reduceAdd]
      apply RegT.T_pure rfl rfl rfl
      · exact fun W hR => load_rr (.tmp 6) rfl rfl (HQ.out W hR).r hsr
      simp only [List.set_cons_succ, List.set_cons_zero, Nat.reduceAdd]
      apply RegT.T_pure rfl rfl rfl
      · exact fun W hR => load_rr (.tmp 7) rfl rfl (HQ.out W hR).s hss
      simp only [List.set_cons_succ, List.set_cons_zero, Nat.reduceAdd]
      apply RegT.T_const rfl rfl rfl (.bool false) (fun _ _ h => h)
      · intro W hR hf
        have Hc := Lib.hid (HN.out.sm W (Below.keeps (HQ.out W hR).below))
        clear hR hf
        go_simp
        exact RegT.OpOK_enter Hc.out (fun e w' h => ⟨_, h.1, rfl, h.2⟩)
      simp only [List.set_cons_succ, List.set_cons_zero, Nat.reduceAdd]
      apply RegT.T_pure (v := .bool true) rfl rfl rfl
      · intro W hR; clear hR; go_simp
      simp only [List.set_cons_succ, List.set_cons_zero, Nat.reduceAdd]
      apply RegT.T_pure (v := .bool true) rfl rfl rfl
      · intro W hR; clear hR; go_simp
      simp only [List.set_cons_succ, List.set_cons_zero, Nat.reduceAdd]
      apply RegT.T_pure (v := .bool true) rfl rfl rfl
      · intro W hR; clear hR; go_simp
      simp only [List.set_cons_succ, List.set_cons_zero, Nat.reduceAdd]
      apply RegT.T_const rfl rfl rfl (.bool true) (fun _ _ h => h)
      · intro W hR hf
        have Hc := Lib.hid (known9_w W)
        clear hR hf
        go_simp
        exact RegT.OpOK_enter Hc.out (fun e w' h => ⟨_, h.1, rfl, h.2⟩)
      simp only [List.set_cons_succ, List.set_cons_zero, Nat.reduceAdd]
      apply RegT.T_pure (v := .bool true) rfl rfl rfl
      · intro W hR; clear hR; go_simp
      simp only [List.set_cons_succ, List.set_cons_zero, Nat.reduceAdd]
      apply RegT.T_pure rfl rfl rfl
      · intro W hR; clear hR; go_simp; rfl
      simp only [List.set_cons_succ, List.set_cons_zero, Nat.reduceAdd]
      refine RegT.T_end rfl (fun W9 hR hf => ?_)
      have HFz := Lib.hid (HQ.out W9 hR)
      clear hR hf HQ HT3 HT4
      go_wp2
      go_ret
      exact ⟨rfl, HFz.out.below⟩
    · rfl
    · kernel_rfl
  · rfl
  · kernel_rfl
set_option maxRecDepth 100000 in
set_option maxHeartbeats 6400000 in
theorem apart_30_w (w : World) (cx cy cr cs : Array Value) (ex ey er es : Int) (bx by' br bs : List UInt8) (sc sr : Bool) (hi : bx ≠ by') (hj : er ≠ 0) (HC : ApC w cx cy cr cs false false 0 0 er es bx by' br bs false sr) :
    Calls Try.prog 3 #[.agg cx, .agg cy, .agg cr, .agg cs] w fun e w' => e = .returned (.bool true) ∧ Below w.heap.size w w' := by
  have d2 : (er != 0) = true := by simp [hj]
  have HI := Lib.hid hi
  have HJ := Lib.hid hj
  clear hi hj
  obtain ⟨W0, hW0⟩ : ∃ W0, (((w.alloc (.cells cx 30)).alloc (.cells cy 30)).alloc (.cells cr 36)).alloc (.cells cs 36) = W0 := ⟨_, rfl⟩
  have HF := Lib.hid (show Four w W0 cx cy cr cs from by rw [← hW0]; exact Four.start w cx cy cr cs)
  have HW0 := Lib.hid hW0
  have hsx := HC.sx
  have hsy := HC.sy
  have hsr := HC.sR
  have hss := HC.sS
  have HN := Lib.hid HC
  clear HC hW0
  go_enter Try.func3, Try.ntmps3
  go_upto_region 1 with fail
  rw [HW0.out]
  go_wp2_with (first
    | (refine wpList_load_rr rfl (.tmp 6) rfl rfl HF.out.r hsr ?_)
    | (refine wpList_load_rr rfl (.tmp 7) rfl rfl HF.out.s hss ?_)
    | (refine wpList_load_cc rfl (.tmp 4) rfl rfl HF.out.x hsx ?_)
    | (refine wpList_load_cc rfl (.tmp 5) rfl rfl HF.out.y hsy ?_)
    | (go_at_call 8; first | ((with_reducible refine (HN.out.lR _ (Below.keeps HF.out.below)).mono ?_); rintro e w1 ⟨rfl, hB⟩; have HF := Lib.hid (HF.out.keep hB); clear hB) | ((with_reducible refine (HN.out.lS _ (Below.keeps HF.out.below)).mono ?_); rintro e w2 ⟨rfl, hB⟩; have HF := Lib.hid (HF.out.keep hB); clear hB))
    | (go_at_call 10; first | ((with_reducible refine (HN.out.bX _).mono ?_); rintro e w3 ⟨⟨p1, n1, c1, rfl, hr⟩, hB⟩; have HF := Lib.hid (HF.out.keep hB); have HR1 := Lib.hid hr; clear hB hr) | ((with_reducible refine (HN.out.bY _).mono ?_); rintro e w4 ⟨⟨p2, n2, c2, rfl, hr⟩, hB⟩; have HF := Lib.hid (HF.out.keep hB); have HR1 := Lib.hid (HR1.out.keeps (Below.keeps hB)); have HR2 := Lib.hid hr; clear hB hr))
    | (go_at_call 11; first | ((with_reducible refine (HN.out.bR _ (Below.keeps HF.out.below)).mono ?_); rintro e w5 ⟨⟨p3, n3, c3, rfl, hr⟩, hB⟩; have HF := Lib.hid (HF.out.keep hB); have HR1 := Lib.hid (HR1.out.keeps (Below.keeps hB)); have HR2 := Lib.hid (HR2.out.keeps (Below.keeps hB)); have HR3 := Lib.hid hr; clear hB hr) | ((with_reducible refine (HN.out.bS _ (Below.keeps HF.out.below)).mono ?_); rintro e w6 ⟨⟨p4, n4, c4, rfl, hr⟩, hB⟩; have HF := Lib.hid (HF.out.keep hB); have HR1 := Lib.hid (HR1.out.keeps (Below.keeps hB)); have HR2 := Lib.hid (HR2.out.keeps (Below.keeps hB)); have HR3 := Lib.hid (HR3.out.keeps (Below.keeps hB)); have HR4 := Lib.hid hr; clear hB hr)))
  have HQ := Lib.hid (fun (W : World) (hR : RegT.Grow w6.drew W) => HF.out.keep ((Below.refl w6.heap.size w6).drew.trans hR))
  have HT1 := Lib.hid (fun (W : World) (hR : RegT.Grow w6.drew W) => HR1.out.keeps (Below.keeps ((Below.refl w6.heap.size w6).drew.trans hR)))
  have HT2 := Lib.hid (fun (W : World) (hR : RegT.Grow w6.drew W) => HR2.out.keeps (Below.keeps ((Below.refl w6.heap.size w6).drew.trans hR)))
  have HT3 := Lib.hid (fun (W : World) (hR : RegT.Grow w6.drew W) => HR3.out.keeps (Below.keeps ((Below.refl w6.heap.size w6).drew.trans hR)))
  have HT4 := Lib.hid (fun (W : World) (hR : RegT.Grow w6.drew W) => HR4.out.keeps (Below.keeps ((Below.refl w6.heap.size w6).drew.trans hR)))
  apply RegT.wp_region_T rfl 81 17 rfl (by kernel_rfl) RegT.Grow RegT.Grow.refl RegT.Grow.trans
  · apply RegT.T_pure rfl rfl rfl
    · intro W hR; clear hR; go_simp; rfl
    simp only [List.set_cons_succ, List.set_cons_zero, Nat.reduceAdd]
    apply RegT.T_pure (v := .bool true) rfl rfl rfl
    · intro W hR; clear hR; go_simp
    simp only [List.set_cons_succ, List.set_cons_zero, Nat.reduceAdd]
    apply RegT.T_pure (v := .bool true) rfl rfl rfl
    · intro W hR; clear hR; go_simp
    simp only [List.set_cons_succ, List.set_cons_zero, Nat.reduceAdd]
    apply RegT.T_pure rfl rfl rfl
    · intro W hR; clear hR; go_simp; rfl
    simp only [List.set_cons_succ, List.set_cons_zero, Nat.reduceAdd]
    apply RegT.T_pure (v := .bool true) rfl rfl rfl
    · intro W hR; clear hR; go_simp
    simp only [List.set_cons_succ, List.set_cons_zero, Nat.reduceAdd]
    apply RegT.T_pure (v := .bool true) rfl rfl rfl
    · intro W hR; clear hR; go_simp
    simp only [List.set_cons_succ, List.set_cons_zero, Nat.reduceAdd]
    apply RegT.T_pure (v := .bool true) rfl rfl rfl
    · intro W hR; clear hR; go_simp
    simp only [List.set_cons_succ, List.set_cons_zero, Nat.reduceAdd]
    apply RegT.T_pure rfl rfl rfl
    · intro W hR; clear hR; go_simp; rfl
    simp only [List.set_cons_succ, List.set_cons_zero, Nat.reduceAdd]
    apply RegT.T_pure (v := .string ⟨bx.toArray⟩) rfl rfl rfl
    · intro W hR
      have hc := run_convert_str (P := Try.prog) (HT1.out W hR) 39 5 9 Try.underlying39 Try.underlying5 Try.underlying9
      clear hR
      go_simp
    simp only [List.set_cons_succ, List.set_cons_zero, Nat.reduceAdd]
    apply RegT.T_pure rfl rfl rfl
    · intro W hR; clear hR; go_simp; rfl
    simp only [List.set_cons_succ, List.set_cons_zero, Nat.reduceAdd]
    apply RegT.T_pure (v := .string ⟨by'.toArray⟩) rfl rfl rfl
    · intro W hR
      have hc := run_convert_str (P := Try.prog) (HT2.out W hR) 39 5 9 Try.underlying39 Try.underlying5 Try.underlying9
      clear hR
      go_simp
    simp only [List.set_cons_succ, List.set_cons_zero, Nat.reduceAdd]
    apply RegT.T_pure (v := .bool false) rfl rfl rfl
    · intro W hR; clear hR; (go_simp; exact HI.out)
    simp only [List.set_cons_succ, List.set_cons_zero, Nat.reduceAdd]
    apply RegT.T_pure rfl rfl rfl
    · exact fun W hR => load_cc (.tmp 4) rfl rfl (HQ.out W hR).x hsx
    simp only [List.set_cons_succ, List.set_cons_zero, Nat.reduceAdd]
    apply RegT.T_pure rfl rfl rfl
    · exact fun W hR => load_cc (.tmp 5) rfl rfl (HQ.out W hR).y hsy
    simp only [List.set_cons_succ, List.set_cons_zero, Nat.reduceAdd]
    apply RegT.T_pure (v := .bool false) rfl rfl rfl
    · intro W hR; clear hR; (exact exec_eq30 (.tmp 56) (.tmp 57) rfl rfl rfl (HN.out.eq W))
    simp only [List.set_cons_succ, List.set_cons_zero, Nat.reduceAdd]
    apply RegT.T_pure (v := .bool false) rfl rfl rfl
    · intro W hR; clear hR; go_simp
    simp only [List.set_cons_succ, List.set_cons_zero, Nat.reduceAdd]
    apply RegT.T_pure (v := .bool false) rfl rfl rfl
    · intro W hR; clear hR; go_simp
    simp only [List.set_cons_succ, List.set_cons_zero, Nat.reduceAdd]
    refine RegT.T_end rfl (fun W7 hR hf => ?_)
    have HR1 := Lib.hid (HT1.out W7 hR)
    have HR2 := Lib.hid (HT2.out W7 hR)
    have HR3 := Lib.hid (HT3.out W7 hR)
    have HR4 := Lib.hid (HT4.out W7 hR)
    have HF := Lib.hid (HQ.out W7 hR)
    clear hR hf HQ HT1 HT2 HT3 HT4
    go_wp2
    have HQ := Lib.hid (fun (W : World) (hR : RegT.Grow W7.drew W) => HF.out.keep ((Below.refl W7.heap.size W7).drew.trans hR))
    have HT3 := Lib.hid (fun (W : World) (hR : RegT.Grow W7.drew W) => HR3.out.keeps (Below.keeps ((Below.refl W7.heap.size W7).drew.trans hR)))
    have HT4 := Lib.hid (fun (W : World) (hR : RegT.Grow W7.drew W) => HR4.out.keeps (Below.keeps ((Below.refl W7.heap.size W7).drew.trans hR)))
    apply RegT.wp_region_T rfl 81 21 rfl (by kernel_rfl) RegT.Grow RegT.Grow.refl RegT.Grow.trans
    · apply RegT.T_pure rfl rfl rfl
      · intro W hR; clear hR; go_simp; rfl
      simp only [List.set_cons_succ, List.set_cons_zero, Nat.reduceAdd]
      apply RegT.T_pure (v := .bool true) rfl rfl rfl
      · intro W hR; clear hR; go_simp
      simp only [List.set_cons_succ, List.set_cons_zero, Nat.reduceAdd]
      apply RegT.T_pure (v := .bool true) rfl rfl rfl
      · intro W hR; clear hR; go_simp
      simp only [List.set_cons_succ, List.set_cons_zero, Nat.reduceAdd]
      apply RegT.T_skip rfl rfl rfl
      simp only [List.set_cons_succ, List.set_cons_zero, Nat.reduceAdd]
      apply RegT.T_skip rfl rfl rfl
      simp only [List.set_cons_succ, List.set_cons_zero, Nat.reduceAdd]
      apply RegT.T_pure (v := .bool true) rfl rfl rfl
      · intro W hR; clear hR; go_simp
      simp only [List.set_cons_succ, List.set_cons_zero, Nat.reduceAdd]
      apply RegT.T_pure (v := .bool true) rfl rfl rfl
      · intro W hR; clear hR; go_simp
      simp only [List.set_cons_succ, List.set_cons_zero, Nat.reduceAdd]
      apply RegT.T_skip rfl rfl rfl
      simp only [List.set_cons_succ, List.set_cons_zero, Nat.reduceAdd]
      apply RegT.T_skip rfl rfl rfl
      simp only [List.set_cons_succ, List.set_cons_zero, Nat.reduceAdd]
      apply RegT.T_skip rfl rfl rfl
      simp only [List.set_cons_succ, List.set_cons_zero, Nat.reduceAdd]
      apply RegT.T_skip rfl rfl rfl
      simp only [List.set_cons_succ, List.set_cons_zero, Nat.reduceAdd]
      apply RegT.T_skip rfl rfl rfl
      simp only [List.set_cons_succ, List.set_cons_zero, Nat.reduceAdd]
      apply RegT.T_skip rfl rfl rfl
      simp only [List.set_cons_succ, List.set_cons_zero, Nat.reduceAdd]
      apply RegT.T_skip rfl rfl rfl
      simp only [List.set_cons_succ, List.set_cons_zero, Nat.reduceAdd]
      apply RegT.T_skip rfl rfl rfl
      simp only [List.set_cons_succ, List.set_cons_zero, Nat.reduceAdd]
      apply RegT.T_skip rfl rfl rfl
      simp only [List.set_cons_succ, List.set_cons_zero, Nat.reduceAdd]
      apply RegT.T_pure (v := .bool true) rfl rfl rfl
      · intro W hR; clear hR; go_simp
      simp only [List.set_cons_succ, List.set_cons_zero, Nat.reduceAdd]
      apply RegT.T_pure (v := .bool true) rfl rfl rfl
      · intro W hR; clear hR; go_simp
      simp only [List.set_cons_succ, List.set_cons_zero, Nat.reduceAdd]
      apply RegT.T_const rfl rfl rfl (.bool true) (fun _ _ h => h)
      · intro W hR hf
        have Hc := Lib.hid (known9_w W)
        clear hR hf
        go_simp
        exact RegT.OpOK_enter Hc.out (fun e w' h => ⟨_, h.1, rfl, h.2⟩)
      simp only [List.set_cons_succ, List.set_cons_zero, Nat.reduceAdd]
      apply RegT.T_pure (v := .bool true) rfl rfl rfl
      · intro W hR; clear hR; go_simp
      simp only [List.set_cons_succ, List.set_cons_zero, Nat.reduceAdd]
      apply RegT.T_pure rfl rfl rfl
      · intro W hR; clear hR; go_simp; rfl
      simp only [List.set_cons_succ, List.set_cons_zero, Nat.reduceAdd]
      refine RegT.T_end rfl (fun W9 hR hf => ?_)
      have HFz := Lib.hid (HQ.out W9 hR)
      clear hR hf HQ HT3 HT4
      go_wp2
      go_ret
      exact ⟨rfl, HFz.out.below⟩
    · rfl
    · kernel_rfl
  · rfl
  · kernel_rfl
set_option maxRecDepth 100000 in
set_option maxHeartbeats 6400000 in
theorem apart_31_w (w : World) (cx cy cr cs : Array Value) (ex ey er es : Int) (bx by' br bs : List UInt8) (sc sr : Bool) (hi : bx ≠ by') (hj : es ≠ 0) (HC : ApC w cx cy cr cs false false 0 0 0 es bx by' br bs false sr) :
    Calls Try.prog 3 #[.agg cx, .agg cy, .agg cr, .agg cs] w fun e w' => e = .returned (.bool true) ∧ Below w.heap.size w w' := by
  have d2 : (es != 0) = true := by simp [hj]
  have HI := Lib.hid hi
  have HJ := Lib.hid hj
  clear hi hj
  obtain ⟨W0, hW0⟩ : ∃ W0, (((w.alloc (.cells cx 30)).alloc (.cells cy 30)).alloc (.cells cr 36)).alloc (.cells cs 36) = W0 := ⟨_, rfl⟩
  have HF := Lib.hid (show Four w W0 cx cy cr cs from by rw [← hW0]; exact Four.start w cx cy cr cs)
  have HW0 := Lib.hid hW0
  have hsx := HC.sx
  have hsy := HC.sy
  have hsr := HC.sR
  have hss := HC.sS
  have HN := Lib.hid HC
  clear HC hW0
  go_enter Try.func3, Try.ntmps3
  go_upto_region 1 with fail
  rw [HW0.out]
  go_wp2_with (first
    | (refine wpList_load_rr rfl (.tmp 6) rfl rfl HF.out.r hsr ?_)
    | (refine wpList_load_rr rfl (.tmp 7) rfl rfl HF.out.s hss ?_)
    | (refine wpList_load_cc rfl (.tmp 4) rfl rfl HF.out.x hsx ?_)
    | (refine wpList_load_cc rfl (.tmp 5) rfl rfl HF.out.y hsy ?_)
    | (go_at_call 8; first | ((with_reducible refine (HN.out.lR _ (Below.keeps HF.out.below)).mono ?_); rintro e w1 ⟨rfl, hB⟩; have HF := Lib.hid (HF.out.keep hB); clear hB) | ((with_reducible refine (HN.out.lS _ (Below.keeps HF.out.below)).mono ?_); rintro e w2 ⟨rfl, hB⟩; have HF := Lib.hid (HF.out.keep hB); clear hB))
    | (go_at_call 10; first | ((with_reducible refine (HN.out.bX _).mono ?_); rintro e w3 ⟨⟨p1, n1, c1, rfl, hr⟩, hB⟩; have HF := Lib.hid (HF.out.keep hB); have HR1 := Lib.hid hr; clear hB hr) | ((with_reducible refine (HN.out.bY _).mono ?_); rintro e w4 ⟨⟨p2, n2, c2, rfl, hr⟩, hB⟩; have HF := Lib.hid (HF.out.keep hB); have HR1 := Lib.hid (HR1.out.keeps (Below.keeps hB)); have HR2 := Lib.hid hr; clear hB hr))
    | (go_at_call 11; first | ((with_reducible refine (HN.out.bR _ (Below.keeps HF.out.below)).mono ?_); rintro e w5 ⟨⟨p3, n3, c3, rfl, hr⟩, hB⟩; have HF := Lib.hid (HF.out.keep hB); have HR1 := Lib.hid (HR1.out.keeps (Below.keeps hB)); have HR2 := Lib.hid (HR2.out.keeps (Below.keeps hB)); have HR3 := Lib.hid hr; clear hB hr) | ((with_reducible refine (HN.out.bS _ (Below.keeps HF.out.below)).mono ?_); rintro e w6 ⟨⟨p4, n4, c4, rfl, hr⟩, hB⟩; have HF := Lib.hid (HF.out.keep hB); have HR1 := Lib.hid (HR1.out.keeps (Below.keeps hB)); have HR2 := Lib.hid (HR2.out.keeps (Below.keeps hB)); have HR3 := Lib.hid (HR3.out.keeps (Below.keeps hB)); have HR4 := Lib.hid hr; clear hB hr)))
  have HQ := Lib.hid (fun (W : World) (hR : RegT.Grow w6.drew W) => HF.out.keep ((Below.refl w6.heap.size w6).drew.trans hR))
  have HT1 := Lib.hid (fun (W : World) (hR : RegT.Grow w6.drew W) => HR1.out.keeps (Below.keeps ((Below.refl w6.heap.size w6).drew.trans hR)))
  have HT2 := Lib.hid (fun (W : World) (hR : RegT.Grow w6.drew W) => HR2.out.keeps (Below.keeps ((Below.refl w6.heap.size w6).drew.trans hR)))
  have HT3 := Lib.hid (fun (W : World) (hR : RegT.Grow w6.drew W) => HR3.out.keeps (Below.keeps ((Below.refl w6.heap.size w6).drew.trans hR)))
  have HT4 := Lib.hid (fun (W : World) (hR : RegT.Grow w6.drew W) => HR4.out.keeps (Below.keeps ((Below.refl w6.heap.size w6).drew.trans hR)))
  apply RegT.wp_region_T rfl 81 17 rfl (by kernel_rfl) RegT.Grow RegT.Grow.refl RegT.Grow.trans
  · apply RegT.T_pure rfl rfl rfl
    · intro W hR; clear hR; go_simp; rfl
    simp only [List.set_cons_succ, List.set_cons_zero, Nat.reduceAdd]
    apply RegT.T_pure (v := .bool true) rfl rfl rfl
    · intro W hR; clear hR; go_simp
    simp only [List.set_cons_succ, List.set_cons_zero, Nat.reduceAdd]
    apply RegT.T_pure (v := .bool true) rfl rfl rfl
    · intro W hR; clear hR; go_simp
    simp only [List.set_cons_succ, List.set_cons_zero, Nat.reduceAdd]
    apply RegT.T_pure rfl rfl rfl
    · intro W hR; clear hR; go_simp; rfl
    simp only [List.set_cons_succ, List.set_cons_zero, Nat.reduceAdd]
    apply RegT.T_pure (v := .bool true) rfl rfl rfl
    · intro W hR; clear hR; go_simp
    simp only [List.set_cons_succ, List.set_cons_zero, Nat.reduceAdd]
    apply RegT.T_pure (v := .bool true) rfl rfl rfl
    · intro W hR; clear hR; go_simp
    simp only [List.set_cons_succ, List.set_cons_zero, Nat.reduceAdd]
    apply RegT.T_pure (v := .bool true) rfl rfl rfl
    · intro W hR; clear hR; go_simp
    simp only [List.set_cons_succ, List.set_cons_zero, Nat.reduceAdd]
    apply RegT.T_pure rfl rfl rfl
    · intro W hR; clear hR; go_simp; rfl
    simp only [List.set_cons_succ, List.set_cons_zero, Nat.reduceAdd]
    apply RegT.T_pure (v := .string ⟨bx.toArray⟩) rfl rfl rfl
    · intro W hR
      have hc := run_convert_str (P := Try.prog) (HT1.out W hR) 39 5 9 Try.underlying39 Try.underlying5 Try.underlying9
      clear hR
      go_simp
    simp only [List.set_cons_succ, List.set_cons_zero, Nat.reduceAdd]
    apply RegT.T_pure rfl rfl rfl
    · intro W hR; clear hR; go_simp; rfl
    simp only [List.set_cons_succ, List.set_cons_zero, Nat.reduceAdd]
    apply RegT.T_pure (v := .string ⟨by'.toArray⟩) rfl rfl rfl
    · intro W hR
      have hc := run_convert_str (P := Try.prog) (HT2.out W hR) 39 5 9 Try.underlying39 Try.underlying5 Try.underlying9
      clear hR
      go_simp
    simp only [List.set_cons_succ, List.set_cons_zero, Nat.reduceAdd]
    apply RegT.T_pure (v := .bool false) rfl rfl rfl
    · intro W hR; clear hR; (go_simp; exact HI.out)
    simp only [List.set_cons_succ, List.set_cons_zero, Nat.reduceAdd]
    apply RegT.T_pure rfl rfl rfl
    · exact fun W hR => load_cc (.tmp 4) rfl rfl (HQ.out W hR).x hsx
    simp only [List.set_cons_succ, List.set_cons_zero, Nat.reduceAdd]
    apply RegT.T_pure rfl rfl rfl
    · exact fun W hR => load_cc (.tmp 5) rfl rfl (HQ.out W hR).y hsy
    simp only [List.set_cons_succ, List.set_cons_zero, Nat.reduceAdd]
    apply RegT.T_pure (v := .bool false) rfl rfl rfl
    · intro W hR; clear hR; (exact exec_eq30 (.tmp 56) (.tmp 57) rfl rfl rfl (HN.out.eq W))
    simp only [List.set_cons_succ, List.set_cons_zero, Nat.reduceAdd]
    apply RegT.T_pure (v := .bool false) rfl rfl rfl
    · intro W hR; clear hR; go_simp
    simp only [List.set_cons_succ, List.set_cons_zero, Nat.reduceAdd]
    apply RegT.T_pure (v := .bool false) rfl rfl rfl
    · intro W hR; clear hR; go_simp
    simp only [List.set_cons_succ, List.set_cons_zero, Nat.reduceAdd]
    refine RegT.T_end rfl (fun W7 hR hf => ?_)
    have HR1 := Lib.hid (HT1.out W7 hR)
    have HR2 := Lib.hid (HT2.out W7 hR)
    have HR3 := Lib.hid (HT3.out W7 hR)
    have HR4 := Lib.hid (HT4.out W7 hR)
    have HF := Lib.hid (HQ.out W7 hR)
    clear hR hf HQ HT1 HT2 HT3 HT4
    go_wp2
    have HQ := Lib.hid (fun (W : World) (hR : RegT.Grow W7.drew W) => HF.out.keep ((Below.refl W7.heap.size W7).drew.trans hR))
    have HT3 := Lib.hid (fun (W : World) (hR : RegT.Grow W7.drew W) => HR3.out.keeps (Below.keeps ((Below.refl W7.heap.size W7).drew.trans hR)))
    have HT4 := Lib.hid (fun (W : World) (hR : RegT.Grow W7.drew W) => HR4.out.keeps (Below.keeps ((Below.refl W7.heap.size W7).drew.trans hR)))
    apply RegT.wp_region_T rfl 81 21 rfl (by kernel_rfl) RegT.Grow RegT.Grow.refl RegT.Grow.trans
    · apply RegT.T_pure rfl rfl rfl
      · intro W hR; clear hR; go_simp; rfl
      simp only [List.set_cons_succ, List.set_cons_zero, Nat.reduceAdd]
      apply RegT.T_pure (v := .bool false) rfl rfl rfl
      · intro W hR; clear hR; go_simp
      simp only [List.set_cons_succ, List.set_cons_zero, Nat.reduceAdd]
      apply RegT.T_pure (v := .bool false) rfl rfl rfl
      · intro W hR; clear hR; go_simp
      simp only [List.set_cons_succ, List.set_cons_zero, Nat.reduceAdd]
      apply RegT.T_pure rfl rfl rfl
      · intro W hR; clear hR; go_simp; rfl
      simp only [List.set_cons_succ, List.set_cons_zero, Nat.reduceAdd]
      apply RegT.T_pure (v := .bool true) rfl rfl rfl
      · intro W hR; clear hR; go_simp
      simp only [List.set_cons_succ, List.set_cons_zero, Nat.reduceAdd]
      apply RegT.T_pure (v := .bool true) rfl rfl rfl
      · intro W hR; clear hR; go_simp
      simp only [List.set_cons_succ, List.set_cons_zero, Nat.reduceAdd]
      apply RegT.T_pure (v := .bool true) rfl rfl rfl
      · intro W hR; clear hR; go_simp
      simp only [List.set_cons_succ, List.set_cons_zero, Nat.reduceAdd]
      apply RegT.T_skip rfl rfl rfl
      simp only [List.set_cons_succ, List.set_cons_zero, Nat.reduceAdd]
      apply RegT.T_skip rfl rfl rfl
      simp only [List.set_cons_succ, List.set_cons_zero, Nat.reduceAdd]
      apply RegT.T_skip rfl rfl rfl
      simp only [List.set_cons_succ, List.set_cons_zero, Nat.reduceAdd]
      apply RegT.T_skip rfl rfl rfl
      simp only [List.set_cons_succ, List.set_cons_zero, Nat.reduceAdd]
      apply RegT.T_skip rfl rfl rfl
      simp only [List.set_cons_succ, List.set_cons_zero, Nat.reduceAdd]
      apply RegT.T_skip rfl rfl rfl
      simp only [List.set_cons_succ, List.set_cons_zero, Nat.reduceAdd]
      apply RegT.T_skip rfl rfl rfl
      simp only [List.set_cons_succ, List.set_cons_zero, Nat.reduceAdd]
      apply RegT.T_skip rfl rfl rfl
      simp only [List.set_cons_succ, List.set_cons_zero, Nat.reduceAdd]
      apply RegT.T_skip rfl rfl rfl
      simp only [List.set_cons_succ, List.set_cons_zero, Nat.reduceAdd]
      apply RegT.T_pure (v := .bool true) rfl rfl rfl
      · intro W hR; clear hR; go_simp
      simp only [List.set_cons_succ, List.set_cons_zero, Nat.reduceAdd]
      apply RegT.T_pure (v := .bool true) rfl rfl rfl
      · intro W hR; clear hR; go_simp
      simp only [List.set_cons_succ, List.set_cons_zero, Nat.reduceAdd]
      apply RegT.T_const rfl rfl rfl (.bool true) (fun _ _ h => h)
      · intro W hR hf
        have Hc := Lib.hid (known9_w W)
        clear hR hf
        go_simp
        exact RegT.OpOK_enter Hc.out (fun e w' h => ⟨_, h.1, rfl, h.2⟩)
      simp only [List.set_cons_succ, List.set_cons_zero, Nat.reduceAdd]
      apply RegT.T_pure (v := .bool true) rfl rfl rfl
      · intro W hR; clear hR; go_simp
      simp only [List.set_cons_succ, List.set_cons_zero, Nat.reduceAdd]
      apply RegT.T_pure rfl rfl rfl
      · intro W hR; clear hR; go_simp; rfl
      simp only [List.set_cons_succ, List.set_cons_zero, Nat.reduceAdd]
      refine RegT.T_end rfl (fun W9 hR hf => ?_)
      have HFz := Lib.hid (HQ.out W9 hR)
      clear hR hf HQ HT3 HT4
      go_wp2
      go_ret
      exact ⟨rfl, HFz.out.below⟩
    · rfl
    · kernel_rfl
  · rfl
  · kernel_rfl
set_option maxRecDepth 100000 in
set_option maxHeartbeats 6400000 in
theorem apart_32_w (w : World) (cx cy cr cs : Array Value) (ex ey er es : Int) (bx by' br bs : List UInt8) (sc sr : Bool) (hi : bx ≠ by') (hj : br = bs) (HC : ApC w cx cy cr cs false false 0 0 0 0 bx by' br bs false true) :
    Calls Try.prog 3 #[.agg cx, .agg cy, .agg cr, .agg cs] w fun e w' => e = .returned (.bool true) ∧ Below w.heap.size w w' := by
  have HI := Lib.hid hi
  have HJ := Lib.hid hj
  clear hi hj
  obtain ⟨W0, hW0⟩ : ∃ W0, (((w.alloc (.cells cx 30)).alloc (.cells cy 30)).alloc (.cells cr 36)).alloc (.cells cs 36) = W0 := ⟨_, rfl⟩
  have HF := Lib.hid (show Four w W0 cx cy cr cs from by rw [← hW0]; exact Four.start w cx cy cr cs)
  have HW0 := Lib.hid hW0
  have hsx := HC.sx
  have hsy := HC.sy
  have hsr := HC.sR
  have hss := HC.sS
  have HN := Lib.hid HC
  clear HC hW0
  go_enter Try.func3, Try.ntmps3
  go_upto_region 1 with fail
  rw [HW0.out]
  go_wp2_with (first
    | (refine wpList_load_rr rfl (.tmp 6) rfl rfl HF.out.r hsr ?_)
    | (refine wpList_load_rr rfl (.tmp 7) rfl rfl HF.out.s hss ?_)
    | (refine wpList_load_cc rfl (.tmp 4) rfl rfl HF.out.x hsx ?_)
    | (refine wpList_load_cc rfl (.tmp 5) rfl rfl HF.out.y hsy ?_)
    | (go_at_call 8; first | ((with_reducible refine (HN.out.lR _ (Below.keeps HF.out.below)).mono ?_); rintro e w1 ⟨rfl, hB⟩; have HF := Lib.hid (HF.out.keep hB); clear hB) | ((with_reducible refine (HN.out.lS _ (Below.keeps HF.out.below)).mono ?_); rintro e w2 ⟨rfl, hB⟩; have HF := Lib.hid (HF.out.keep hB); clear hB))
    | (go_at_call 10; first | ((with_reducible refine (HN.out.bX _).mono ?_); rintro e w3 ⟨⟨p1, n1, c1, rfl, hr⟩, hB⟩; have HF := Lib.hid (HF.out.keep hB); have HR1 := Lib.hid hr; clear hB hr) | ((with_reducible refine (HN.out.bY _).mono ?_); rintro e w4 ⟨⟨p2, n2, c2, rfl, hr⟩, hB⟩; have HF := Lib.hid (HF.out.keep hB); have HR1 := Lib.hid (HR1.out.keeps (Below.keeps hB)); have HR2 := Lib.hid hr; clear hB hr))
    | (go_at_call 11; first | ((with_reducible refine (HN.out.bR _ (Below.keeps HF.out.below)).mono ?_); rintro e w5 ⟨⟨p3, n3, c3, rfl, hr⟩, hB⟩; have HF := Lib.hid (HF.out.keep hB); have HR1 := Lib.hid (HR1.out.keeps (Below.keeps hB)); have HR2 := Lib.hid (HR2.out.keeps (Below.keeps hB)); have HR3 := Lib.hid hr; clear hB hr) | ((with_reducible refine (HN.out.bS _ (Below.keeps HF.out.below)).mono ?_); rintro e w6 ⟨⟨p4, n4, c4, rfl, hr⟩, hB⟩; have HF := Lib.hid (HF.out.keep hB); have HR1 := Lib.hid (HR1.out.keeps (Below.keeps hB)); have HR2 := Lib.hid (HR2.out.keeps (Below.keeps hB)); have HR3 := Lib.hid (HR3.out.keeps (Below.keeps hB)); have HR4 := Lib.hid hr; clear hB hr)))
  have HQ := Lib.hid (fun (W : World) (hR : RegT.Grow w6.drew W) => HF.out.keep ((Below.refl w6.heap.size w6).drew.trans hR))
  have HT1 := Lib.hid (fun (W : World) (hR : RegT.Grow w6.drew W) => HR1.out.keeps (Below.keeps ((Below.refl w6.heap.size w6).drew.trans hR)))
  have HT2 := Lib.hid (fun (W : World) (hR : RegT.Grow w6.drew W) => HR2.out.keeps (Below.keeps ((Below.refl w6.heap.size w6).drew.trans hR)))
  have HT3 := Lib.hid (fun (W : World) (hR : RegT.Grow w6.drew W) => HR3.out.keeps (Below.keeps ((Below.refl w6.heap.size w6).drew.trans hR)))
  have HT4 := Lib.hid (fun (W : World) (hR : RegT.Grow w6.drew W) => HR4.out.keeps (Below.keeps ((Below.refl w6.heap.size w6).drew.trans hR)))
  apply RegT.wp_region_T rfl 81 17 rfl (by kernel_rfl) RegT.Grow RegT.Grow.refl RegT.Grow.trans
  · apply RegT.T_pure rfl rfl rfl
    · intro W hR; clear hR; go_simp; rfl
    simp only [List.set_cons_succ, List.set_cons_zero, Nat.reduceAdd]
    apply RegT.T_pure (v := .bool true) rfl rfl rfl
    · intro W hR; clear hR; go_simp
    simp only [List.set_cons_succ, List.set_cons_zero, Nat.reduceAdd]
    apply RegT.T_pure (v := .bool true) rfl rfl rfl
    · intro W hR; clear hR; go_simp
    simp only [List.set_cons_succ, List.set_cons_zero, Nat.reduceAdd]
    apply RegT.T_pure rfl rfl rfl
    · intro W hR; clear hR; go_simp; rfl
    simp only [List.set_cons_succ, List.set_cons_zero, Nat.reduceAdd]
    apply RegT.T_pure (v := .bool true) rfl rfl rfl
    · intro W hR; clear hR; go_simp
    simp only [List.set_cons_succ, List.set_cons_zero, Nat.reduceAdd]
    apply RegT.T_pure (v := .bool true) rfl rfl rfl
    · intro W hR; clear hR; go_simp
    simp only [List.set_cons_succ, List.set_cons_zero, Nat.reduceAdd]
    apply RegT.T_pure (v := .bool true) rfl rfl rfl
    · intro W hR; clear hR; go_simp
    simp only [List.set_cons_succ, List.set_cons_zero, Nat.reduceAdd]
    apply RegT.T_pure rfl rfl rfl
    · intro W hR; clear hR; go_simp; rfl
    simp only [List.set_cons_succ, List.set_cons_zero, Nat.reduceAdd]
    apply RegT.T_pure (v := .string ⟨bx.toArray⟩) rfl rfl rfl
    · intro W hR
      have hc := run_convert_str (P := Try.prog) (HT1.out W hR) 39 5 9 Try.underlying39 Try.underlying5 Try.underlying9
      clear hR
      go_simp
    simp only [List.set_cons_succ, List.set_cons_zero, Nat.reduceAdd]
    apply RegT.T_pure rfl rfl rfl
    · intro W hR; clear hR; go_simp; rfl
    simp only [List.set_cons_succ, List.set_cons_zero, Nat.reduceAdd]
    apply RegT.T_pure (v := .string ⟨by'.toArray⟩) rfl rfl rfl
    · intro W hR
      have hc := run_convert_str (P := Try.prog) (HT2.out W hR) 39 5 9 Try.underlying39 Try.underlying5 Try.underlying9
      clear hR
      go_simp
    simp only [List.set_cons_succ, List.set_cons_zero, Nat.reduceAdd]
    apply RegT.T_pure (v := .bool false) rfl rfl rfl
    · intro W hR; clear hR; (go_simp; exact HI.out)
    simp only [List.set_cons_succ, List.set_cons_zero, Nat.reduceAdd]
    apply RegT.T_pure rfl rfl rfl
    · exact fun W hR => load_cc (.tmp 4) rfl rfl (HQ.out W hR).x hsx
    simp only [List.set_cons_succ, List.set_cons_zero, Nat.reduceAdd]
    apply RegT.T_pure rfl rfl rfl
    · exact fun W hR => load_cc (.tmp 5) rfl rfl (HQ.out W hR).y hsy
    simp only [List.set_cons_succ, List.set_cons_zero, Nat.reduceAdd]
    apply RegT.T_pure (v := .bool false) rfl rfl rfl
    · intro W hR; clear hR; (exact exec_eq30 (.tmp 56) (.tmp 57) rfl rfl rfl (HN.out.eq W))
    simp only [List.set_cons_succ, List.set_cons_zero, Nat.reduceAdd]
    apply RegT.T_pure (v := .bool false) rfl rfl rfl
    · intro W hR; clear hR; go_simp
    simp only [List.set_cons_succ, List.set_cons_zero, Nat.reduceAdd]
    apply RegT.T_pure (v := .bool false) rfl rfl rfl
    · intro W hR; clear hR; go_simp
    simp only [List.set_cons_succ, List.set_cons_zero, Nat.reduceAdd]
    refine RegT.T_end rfl (fun W7 hR hf => ?_)
    have HR1 := Lib.hid (HT1.out W7 hR)
    have HR2 := Lib.hid (HT2.out W7 hR)
    have HR3 := Lib.hid (HT3.out W7 hR)
    have HR4 := Lib.hid (HT4.out W7 hR)
    have HF := Lib.hid (HQ.out W7 hR)
    clear hR hf HQ HT1 HT2 HT3 HT4
    go_wp2
    have HQ := Lib.hid (fun (W : World) (hR : RegT.Grow W7.drew W) => HF.out.keep ((Below.refl W7.heap.size W7).drew.trans hR))
    have HT3 := Lib.hid (fun (W : World) (hR : RegT.Grow W7.drew W) => HR3.out.keeps (Below.keeps ((Below.refl W7.heap.size W7).drew.trans hR)))
    have HT4 := Lib.hid (fun (W : World) (hR : RegT.Grow W7.drew W) => HR4.out.keeps (Below.keeps ((Below.refl W7.heap.size W7).drew.trans hR)))
    apply RegT.wp_region_T rfl 81 21 rfl (by kernel_rfl) RegT.Grow RegT.Grow.refl RegT.Grow.trans
    · apply RegT.T_pure rfl rfl rfl
      · intro W hR; clear hR; go_simp; rfl
      simp only [List.set_cons_succ, List.set_cons_zero, Nat.reduceAdd]
      apply RegT.T_pure (v := .bool false) rfl rfl rfl
      · intro W hR; clear hR; go_simp
      simp only [List.set_cons_succ, List.set_cons_zero, Nat.reduceAdd]
      apply RegT.T_pure (v := .bool false) rfl rfl rfl
      · intro W hR; clear hR; go_simp
      simp only [List.set_cons_succ, List.set_cons_zero, Nat.reduceAdd]
      apply RegT.T_pure rfl rfl rfl
      · intro W hR; clear hR; go_simp; rfl
      simp only [List.set_cons_succ, List.set_cons_zero, Nat.reduceAdd]
      apply RegT.T_pure (v := .bool false) rfl rfl rfl
      · intro W hR; clear hR; go_simp
      simp only [List.set_cons_succ, List.set_cons_zero, Nat.reduceAdd]
      apply RegT.T_pure (v := .bool false) rfl rfl rfl
      · intro W hR; clear hR; go_simp
      simp only [List.set_cons_succ, List.set_cons_zero, Nat.reduceAdd]
      apply RegT.T_pure (v := .bool false) rfl rfl rfl
      · intro W hR; clear hR; go_simp
      simp only [List.set_cons_succ, List.set_cons_zero, Nat.reduceAdd]
      apply RegT.T_pure rfl rfl rfl
      · intro W hR; clear hR; go_simp; rfl
      simp only [List.set_cons_succ, List.set_cons_zero, Nat.reduceAdd]
      apply RegT.T_pure (v := .string ⟨br.toArray⟩) rfl rfl rfl
      · intro W hR
        have hc := run_convert_str (P := Try.prog) (HT3.out W hR) 39 5 9 Try.underlying39 Try.underlying5 Try.underlying9
        clear hR
        go_simp
      simp only [List.set_cons_succ, List.set_cons_zero, Nat.reduceAdd]
      apply RegT.T_pure rfl rfl rfl
      · intro W hR; clear hR; go_simp; rfl
      simp only [List.set_cons_succ, List.set_cons_zero, Nat.reduceAdd]
      apply RegT.T_pure (v := .string ⟨bs.toArray⟩) rfl rfl rfl
      · intro W hR
        have hc := run_convert_str (P := Try.prog) (HT4.out W hR) 39 5 9 Try.underlying39 Try.underlying5 Try.underlying9
        clear hR
        go_simp
      simp only [List.set_cons_succ, List.set_cons_zero, Nat.reduceAdd]
      apply RegT.T_pure (v := .bool true) rfl rfl rfl
      · intro W hR; clear hR; (go_simp; exact HJ.out)
      simp only [List.set_cons_succ, List.set_cons_zero, Nat.reduceAdd]
      apply RegT.T_pure rfl rfl rfl
      · exact fun W hR => load_rr (.tmp 6) rfl rfl (HQ.out W hR).r hsr
      simp only [List.set_cons_succ, List.set_cons_zero, Nat.reduceAdd]
      apply RegT.T_pure rfl rfl rfl
      · exact fun W hR => load_rr (.tmp 7) rfl rfl (HQ.out W hR).s hss
      simp only [List.set_cons_succ, List.set_cons_zero, Nat.reduceAdd]
      apply RegT.T_const rfl rfl rfl (.bool true) (fun _ _ h => h)
      · intro W hR hf
        have Hc := Lib.hid (HN.out.sm W (Below.keeps (HQ.out W hR).below))
        clear hR hf
        go_simp
        exact RegT.OpOK_enter Hc.out (fun e w' h => ⟨_, h.1, rfl, h.2⟩)
      simp only [List.set_cons_succ, List.set_cons_zero, Nat.reduceAdd]
      apply RegT.T_pure (v := .bool true) rfl rfl rfl
      · intro W hR; clear hR; go_simp
      simp only [List.set_cons_succ, List.set_cons_zero, Nat.reduceAdd]
      apply RegT.T_pure (v := .bool true) rfl rfl rfl
      · intro W hR; clear hR; go_simp
      simp only [List.set_cons_succ, List.set_cons_zero, Nat.reduceAdd]
      apply RegT.T_pure (v := .bool true) rfl rfl rfl
      · intro W hR; clear hR; go_simp
      simp only [List.set_cons_succ, List.set_cons_zero, Nat.reduceAdd]
      apply RegT.T_const rfl rfl rfl (.bool true) (fun _ _ h => h)
      · intro W hR hf
        have Hc := Lib.hid (known9_w W)
        clear hR hf
        go_simp
        exact RegT.OpOK_enter Hc.out (fun e w' h => ⟨_, h.1, rfl, h.2⟩)
      simp only [List.set_cons_succ, List.set_cons_zero, Nat.reduceAdd]
      apply RegT.T_pure (v := .bool true) rfl rfl rfl
      · intro W hR; clear hR; go_simp
      simp only [List.set_cons_succ, List.set_cons_zero, Nat.reduceAdd]
      apply RegT.T_pure rfl rfl rfl
      · intro W hR; clear hR; go_simp; rfl
      simp only [List.set_cons_succ, List.set_cons_zero, Nat.reduceAdd]
      refine RegT.T_end rfl (fun W9 hR hf => ?_)
      have HFz := Lib.hid (HQ.out W9 hR)
      clear hR hf HQ HT3 HT4
      go_wp2
      go_ret
      exact ⟨rfl, HFz.out.below⟩
    · rfl
    · kernel_rfl
  · rfl
  · kernel_rfl
set_option maxRecDepth 100000 in
set_option maxHeartbeats 6400000 in
theorem apart_33_w (w : World) (cx cy cr cs : Array Value) (ex ey er es : Int) (bx by' br bs : List UInt8) (sc sr : Bool) (hi : bx ≠ by') (hj : br ≠ bs) (HC : ApC w cx cy cr cs false false 0 0 0 0 bx by' br bs false false) :
    Calls Try.prog 3 #[.agg cx, .agg cy, .agg cr, .agg cs] w fun e w' => e = .returned (.bool true) ∧ Below w.heap.size w w' := by
  have HI := Lib.hid hi
  have HJ := Lib.hid hj
  clear hi hj
  obtain ⟨W0, hW0⟩ : ∃ W0, (((w.alloc (.cells cx 30)).alloc (.cells cy 30)).alloc (.cells cr 36)).alloc (.cells cs 36) = W0 := ⟨_, rfl⟩
  have HF := Lib.hid (show Four w W0 cx cy cr cs from by rw [← hW0]; exact Four.start w cx cy cr cs)
  have HW0 := Lib.hid hW0
  have hsx := HC.sx
  have hsy := HC.sy
  have hsr := HC.sR
  have hss := HC.sS
  have HN := Lib.hid HC
  clear HC hW0
  go_enter Try.func3, Try.ntmps3
  go_upto_region 1 with fail
  rw [HW0.out]
  go_wp2_with (first
    | (refine wpList_load_rr rfl (.tmp 6) rfl rfl HF.out.r hsr ?_)
    | (refine wpList_load_rr rfl (.tmp 7) rfl rfl HF.out.s hss ?_)
    | (refine wpList_load_cc rfl (.tmp 4) rfl rfl HF.out.x hsx ?_)
    | (refine wpList_load_cc rfl (.tmp 5) rfl rfl HF.out.y hsy ?_)
    | (go_at_call 8; first | ((with_reducible refine (HN.out.lR _ (Below.keeps HF.out.below)).mono ?_); rintro e w1 ⟨rfl, hB⟩; have HF := Lib.hid (HF.out.keep hB); clear hB) | ((with_reducible refine (HN.out.lS _ (Below.keeps HF.out.below)).mono ?_); rintro e w2 ⟨rfl, hB⟩; have HF := Lib.hid (HF.out.keep hB); clear hB))
    | (go_at_call 10; first | ((with_reducible refine (HN.out.bX _).mono ?_); rintro e w3 ⟨⟨p1, n1, c1, rfl, hr⟩, hB⟩; have HF := Lib.hid (HF.out.keep hB); have HR1 := Lib.hid hr; clear hB hr) | ((with_reducible refine (HN.out.bY _).mono ?_); rintro e w4 ⟨⟨p2, n2, c2, rfl, hr⟩, hB⟩; have HF := Lib.hid (HF.out.keep hB); have HR1 := Lib.hid (HR1.out.keeps (Below.keeps hB)); have HR2 := Lib.hid hr; clear hB hr))
    | (go_at_call 11; first | ((with_reducible refine (HN.out.bR _ (Below.keeps HF.out.below)).mono ?_); rintro e w5 ⟨⟨p3, n3, c3, rfl, hr⟩, hB⟩; have HF := Lib.hid (HF.out.keep hB); have HR1 := Lib.hid (HR1.out.keeps (Below.keeps hB)); have HR2 := Lib.hid (HR2.out.keeps (Below.keeps hB)); have HR3 := Lib.hid hr; clear hB hr) | ((with_reducible refine (HN.out.bS _ (Below.keeps HF.out.below)).mono ?_); rintro e w6 ⟨⟨p4, n4, c4, rfl, hr⟩, hB⟩; have HF := Lib.hid (HF.out.keep hB); have HR1 := Lib.hid (HR1.out.keeps (Below.keeps hB)); have HR2 := Lib.hid (HR2.out.keeps (Below.keeps hB)); have HR3 := Lib.hid (HR3.out.keeps (Below.keeps hB)); have HR4 := Lib.hid hr; clear hB hr)))
  have HQ := Lib.hid (fun (W : World) (hR : RegT.Grow w6.drew W) => HF.out.keep ((Below.refl w6.heap.size w6).drew.trans hR))
  have HT1 := Lib.hid (fun (W : World) (hR : RegT.Grow w6.drew W) => HR1.out.keeps (Below.keeps ((Below.refl w6.heap.size w6).drew.trans hR)))
  have HT2 := Lib.hid (fun (W : World) (hR : RegT.Grow w6.drew W) => HR2.out.keeps (Below.keeps ((Below.refl w6.heap.size w6).drew.trans hR)))
  have HT3 := Lib.hid (fun (W : World) (hR : RegT.Grow w6.drew W) => HR3.out.keeps (Below.keeps ((Below.refl w6.heap.size w6).drew.trans hR)))
  have HT4 := Lib.hid (fun (W : World) (hR : RegT.Grow w6.drew W) => HR4.out.keeps (Below.keeps ((Below.refl w6.heap.size w6).drew.trans hR)))
  apply RegT.wp_region_T rfl 81 17 rfl (by kernel_rfl) RegT.Grow RegT.Grow.refl RegT.Grow.trans
  · apply RegT.T_pure rfl rfl rfl
    · intro W hR; clear hR; go_simp; rfl
    simp only [List.set_cons_succ, List.set_cons_zero, Nat.reduceAdd]
    apply RegT.T_pure (v := .bool true) rfl rfl rfl
    · intro W hR; clear hR; go_simp
    simp only [List.set_cons_succ, List.set_cons_zero, Nat.reduceAdd]
    apply RegT.T_pure (v := .bool true) rfl rfl rfl
    · intro W hR; clear hR; go_simp
    simp only [List.set_cons_succ, List.set_cons_zero, Nat.reduceAdd]
    apply RegT.T_pure rfl rfl rfl
    · intro W hR; clear hR; go_simp; rfl
    simp only [List.set_cons_succ, List.set_cons_zero, Nat.reduceAdd]
    apply RegT.T_pure (v := .bool true) rfl rfl rfl
    · intro W hR; clear hR; go_simp
    simp only [List.set_cons_succ, List.set_cons_zero, Nat.reduceAdd]
    apply RegT.T_pure (v := .bool true) rfl rfl rfl
    · intro W hR; clear hR; go_simp
    simp only [List.set_cons_succ, List.set_cons_zero, Nat.reduceAdd]
    apply RegT.T_pure (v := .bool true) rfl rfl rfl
    · intro W hR; clear hR; go_simp
    simp only [List.set_cons_succ, List.set_cons_zero, Nat.reduceAdd]
    apply RegT.T_pure rfl rfl rfl
    · intro W hR; clear hR; go_simp; rfl
    simp only [List.set_cons_succ, List.set_cons_zero, Nat.reduceAdd]
    apply RegT.T_pure (v := .string ⟨bx.toArray⟩) rfl rfl rfl
    · intro W hR
      have hc := run_convert_str (P := Try.prog) (HT1.out W hR) 39 5 9 Try.underlying39 Try.underlying5 Try.underlying9
      clear hR
      go_simp
    simp only [List.set_cons_succ, List.set_cons_zero, Nat.reduceAdd]
    apply RegT.T_pure rfl rfl rfl
    · intro W hR; clear hR; go_simp; rfl
    simp only [List.set_cons_succ, List.set_cons_zero, Nat.reduceAdd]
    apply RegT.T_pure (v := .string ⟨by'.toArray⟩) rfl rfl rfl
    · intro W hR
      have hc := run_convert_str (P := Try.prog) (HT2.out W hR) 39 5 9 Try.underlying39 Try.underlying5 Try.underlying9
      clear hR
      go_simp
    simp only [List.set_cons_succ, List.set_cons_zero, Nat.reduceAdd]
    apply RegT.T_pure (v := .bool false) rfl rfl rfl
    · intro W hR; clear hR; (go_simp; exact HI.out)
    simp only [List.set_cons_succ, List.set_cons_zero, Nat.reduceAdd]
    apply RegT.T_pure rfl rfl rfl
    · exact fun W hR => load_cc (.tmp 4) rfl rfl (HQ.out W hR).x hsx
    simp only [List.set_cons_succ, List.set_cons_zero, Nat.reduceAdd]
    apply RegT.T_pure rfl rfl rfl
    · exact fun W hR => load_cc (.tmp 5) rfl rfl (HQ.out W hR).y hsy
    simp only [List.set_cons_succ, List.set_cons_zero, Nat.reduceAdd]
    apply RegT.T_pure (v := .bool false) rfl rfl rfl
    · intro W hR; clear hR; (exact exec_eq30 (.tmp 56) (.tmp 57) rfl rfl rfl (HN.out.eq W))
    simp only [List.set_cons_succ, List.set_cons_zero, Nat.reduceAdd]
    apply RegT.T_pure (v := .bool false) rfl rfl rfl
    · intro W hR; clear hR; go_simp
    simp only [List.set_cons_succ, List.set_cons_zero, Nat.reduceAdd]
    apply RegT.T_pure (v := .bool false) rfl rfl rfl
    · intro W hR; clear hR; go_simp
    simp only [List.set_cons_succ, List.set_cons_zero, Nat.reduceAdd]
    refine RegT.T_end rfl (fun W7 hR hf => ?_)
    have HR1 := Lib.hid (HT1.out W7 hR)
    have HR2 := Lib.hid (HT2.out W7 hR)
    have HR3 := Lib.hid (HT3.out W7 hR)
    have HR4 := Lib.hid (HT4.out W7 hR)
    have HF := Lib.hid (HQ.out W7 hR)
    clear hR hf HQ HT1 HT2 HT3 HT4
    go_wp2
    have HQ := Lib.hid (fun (W : World) (hR : RegT.Grow W7.drew W) => HF.out.keep ((Below.refl W7.heap.size W7).drew.trans hR))
    have HT3 := Lib.hid (fun (W : World) (hR : RegT.Grow W7.drew W) => HR3.out.keeps (Below.keeps ((Below.refl W7.heap.size W7).drew.trans hR)))
    have HT4 := Lib.hid (fun (W : World) (hR : RegT.Grow W7.drew W) => HR4.out.keeps (Below.keeps ((Below.refl W7.heap.size W7).drew.trans hR)))
    apply RegT.wp_region_T rfl 81 21 rfl (by kernel_rfl) RegT.Grow RegT.Grow.refl RegT.Grow.trans
    · apply RegT.T_pure rfl rfl rfl
      · intro W hR; clear hR; go_simp; rfl
      simp only [List.set_cons_succ, List.set_cons_zero, Nat.reduceAdd]
      apply RegT.T_pure (v := .bool false) rfl rfl rfl
      · intro W hR; clear hR; go_simp
      simp only [List.set_cons_succ, List.set_cons_zero, Nat.reduceAdd]
      apply RegT.T_pure (v := .bool false) rfl rfl rfl
      · intro W hR; clear hR; go_simp
      simp only [List.set_cons_succ, List.set_cons_zero, Nat.reduceAdd]
      apply RegT.T_pure rfl rfl rfl
      · intro W hR; clear hR; go_simp; rfl
      simp only [List.set_cons_succ, List.set_cons_zero, Nat.reduceAdd]
      apply RegT.T_pure (v := .bool false) rfl rfl rfl
      · intro W hR; clear hR; go_simp
      simp only [List.set_cons_succ, List.set_cons_zero, Nat.reduceAdd]
      apply RegT.T_pure (v := .bool false) rfl rfl rfl
      · intro W hR; clear hR; go_simp
      simp only [List.set_cons_succ, List.set_cons_zero, Nat.reduceAdd]
      apply RegT.T_pure (v := .bool false) rfl rfl rfl
      · intro W hR; clear hR; go_simp
      simp only [List.set_cons_succ, List.set_cons_zero, Nat.reduceAdd]
      apply RegT.T_pure rfl rfl rfl
      · intro W hR; clear hR; go_simp; rfl
      simp only [List.set_cons_succ, List.set_cons_zero, Nat.reduceAdd]
      apply RegT.T_pure (v := .string ⟨br.toArray⟩) rfl rfl rfl
      · intro W hR
        have hc := run_convert_str (P := Try.prog) (HT3.out W hR) 39 5 9 Try.underlying39 Try.underlying5 Try.underlying9
        clear hR
        go_simp
      simp only [List.set_cons_succ, List.set_cons_zero, Nat.reduceAdd]
      apply RegT.T_pure rfl rfl rfl
      · intro W hR; clear hR; go_simp; rfl
      simp only [List.set_cons_succ, List.set_cons_zero, Nat.reduceAdd]
      apply RegT.T_pure (v := .string ⟨bs.toArray⟩) rfl rfl rfl
      · intro W hR
        have hc := run_convert_str (P := Try.prog) (HT4.out W hR) 39 5 9 Try.underlying39 Try.underlying5 Try.underlying9
        clear hR
        go_simp
      simp only [List.set_cons_succ, List.set_cons_zero, Nat.reduceAdd]
      apply RegT.T_pure (v := .bool false) rfl rfl rfl
      · intro W hR; clear hR; (go_simp; exact HJ.out)
      simp only [List.set_cons_succ, List.set_cons_zero, Nat.reduceAdd]
      apply RegT.T_pure rfl rfl rfl
      · exact fun W hR => load_rr (.tmp 6) rfl rfl (HQ.out W hR).r hsr
      simp only [List.set_cons_succ, List.set_cons_zero, Nat.reduceAdd]
      apply RegT.T_pure rfl rfl rfl
      · exact fun W hR => load_rr (.tmp 7) rfl rfl (HQ.out W hR).s hss
      simp only [List.set_cons_succ, List.set_cons_zero, Nat.reduceAdd]
      apply RegT.T_const rfl rfl rfl (.bool false) (fun _ _ h => h)
      · intro W hR hf
        have Hc := Lib.hid (HN.out.sm W (Below.keeps (HQ.out W hR).below))
        clear hR hf
        go_simp
        exact RegT.OpOK_enter Hc.out (fun e w' h => ⟨_, h.1, rfl, h.2⟩)
      simp only [List.set_cons_succ, List.set_cons_zero, Nat.reduceAdd]
      apply RegT.T_pure (v := .bool true) rfl rfl rfl
      · intro W hR; clear hR; go_simp
      simp only [List.set_cons_succ, List.set_cons_zero, Nat.reduceAdd]
      apply RegT.T_pure (v := .bool true) rfl rfl rfl
      · intro W hR; clear hR; go_simp
      simp only [List.set_cons_succ, List.set_cons_zero, Nat.reduceAdd]
      apply RegT.T_pure (v := .bool true) rfl rfl rfl
      · intro W hR; clear hR; go_simp
      simp only [List.set_cons_succ, List.set_cons_zero, Nat.reduceAdd]
      apply RegT.T_const rfl rfl rfl (.bool true) (fun _ _ h => h)
      · intro W hR hf
        have Hc := Lib.hid (known9_w W)
        clear hR hf
        go_simp
        exact RegT.OpOK_enter Hc.out (fun e w' h => ⟨_, h.1, rfl, h.2⟩)
      simp only [List.set_cons_succ, List.set_cons_zero, Nat.reduceAdd]
      apply RegT.T_pure (v := .bool true) rfl rfl rfl
      · intro W hR; clear hR; go_simp
      simp only [List.set_cons_succ, List.set_cons_zero, Nat.reduceAdd]
      apply RegT.T_pure rfl rfl rfl
      · intro W hR; clear hR; go_simp; rfl
      simp only [List.set_cons_succ, List.set_cons_zero, Nat.reduceAdd]
      refine RegT.T_end rfl (fun W9 hR hf => ?_)
      have HFz := Lib.hid (HQ.out W9 hR)
      clear hR hf HQ HT3 HT4
      go_wp2
      go_ret
      exact ⟨rfl, HFz.out.below⟩
    · rfl
    · kernel_rfl
  · rfl
  · kernel_rfl
end Go.Proofs.Ytoflehlkacofjaa
