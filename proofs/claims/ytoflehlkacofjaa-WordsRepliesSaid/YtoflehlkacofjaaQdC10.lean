/- The walk of the law WordsReplies. -/
import Derived.Test.YtoflehlkacofjaaQdC9
namespace Go.Proofs.Ytoflehlkacofjaa
open Go.ChangeShapes Go.WideShapes Go.ChangeAt Go.RowKit
set_option linter.unusedVariables false
/-- These cells are that reply's, which lies in memory. -/
def InP (x : Rp) (W : World) (ci : Array Value) : Prop := ∃ tv gv av, ci = rpc x tv gv av ∧ RpA W tv gv av x
theorem InP.keeps {x : Rp} {W W' : World} {ci : Array Value} (h : InP x W ci) (hk : Keeps W W') : InP x W' ci := by
  obtain ⟨a, b, c, e, h⟩ := h
  exact ⟨a, b, c, e, h.keeps hk⟩
theorem InP.size {x : Rp} {W : World} {ci : Array Value} (h : InP x W ci) : ci.size = 7 := by
  obtain ⟨a, b, c, rfl, h⟩ := h
  rfl
theorem InP.one {x : Rp} {W : World} {ci : Array Value} (h : InP x W ci) : ci.all (·.oneCell') = true := by
  obtain ⟨a, b, c, rfl, h⟩ := h
  obtain ⟨⟨p1, c1, e1⟩, ⟨p2, c2, e2⟩, ⟨p3, c3, e3⟩⟩ := h.forms
  rw [e1, e2, e3]
  simp [rpc, Value.oneCell']
/-- Two replies in their variables. -/
structure Tw (w W : World) (cr cs : Array Value) : Prop where
  r : RrAt W w.heap.size cr
  s : RrAt W (w.heap.size + 1) cs
  below : Below w.heap.size w W
theorem Tw.keep {w W W' : World} {cr cs : Array Value} (h : Tw w W cr cs) (hB : Below W.heap.size W W') : Tw w W' cr cs := ⟨h.r.keeps hB.block, h.s.keeps hB.block, h.below.trans (hB.mono h.below.size)⟩
theorem Tw.keeps {w W : World} {cr cs : Array Value} (h : Tw w W cr cs) : Keeps w W := h.below.block
/-- .. and the copy. -/
structure Th (w W : World) (x : Rp) (cr cs ci : Array Value) (I : Nat) : Prop where
  t : Tw w W cr cs
  i : RrAt W I ci
  p : InP x W ci
theorem Th.keep {w W W' : World} {x : Rp} {cr cs ci : Array Value} {I : Nat} (h : Th w W x cr cs ci I) (hB : Below W.heap.size W W') : Th w W' x cr cs ci I := ⟨h.t.keep hB, h.i.keeps hB.block, h.p.keeps hB.block⟩
theorem Th.new {w W : World} {x : Rp} {cr cs ci : Array Value} (h : Tw w W cr cs) (hp : InP x W ci) : Th w (W.alloc (.cells ci 36)) x cr cs ci W.heap.size :=
  have hB : Below W.heap.size W (W.alloc (.cells ci 36)) := (Below.refl _ _).alloc (Nat.le_refl _) _
  ⟨h.keep hB, RrAt.new W ci, hp.keeps hB.block⟩
/-- What the callees do. -/
structure RlC (w : World) (x : Rp) (cr cs : Array Value) (lr ls m q : Bool) (F : List UInt8) : Prop where
  lR : ∀ W, Keeps w W → Calls Try.prog 8 #[.agg cr] W fun e w' => e = .returned (.bool lr) ∧ Below W.heap.size W w'
  lS : ∀ W, Keeps w W → Calls Try.prog 8 #[.agg cs] W fun e w' => e = .returned (.bool ls) ∧ Below W.heap.size W w'
  cp : lr = false → ∀ W, Keeps w W → Calls Try.prog 13 #[.agg cr] W fun e w' => (∃ ci, e = .returned (.agg ci) ∧ InP x w' ci) ∧ Below W.heap.size W w'
  wr : ∀ W ci, InP x W ci → Calls Try.prog 11 #[.agg ci] W fun e w' => (∃ p n c, e = .returned (.tuple #[.slice p n c, .int .i64 (if m then 0 else 2)]) ∧ (m = false → n = 0) ∧ RdB w' (.slice p n c) F) ∧ Below W.heap.size W w'
  my : ∀ W ci, InP x W ci → Calls Try.prog 14 #[.agg ci] W fun e w' => e = .returned (.bool m) ∧ Below W.heap.size W w'
  rm : ∀ W, Keeps w W → Calls Try.prog 15 #[.agg cr] W fun e w' => e = .returned (.bool m) ∧ Below W.heap.size W w'
  sm : ∀ W, Keeps w W → Calls Try.prog 12 #[.agg cr, .agg cs] W fun e w' => e = .returned (.bool q) ∧ Below W.heap.size W w'
  rs : ∀ W, Keeps w W → Calls Try.prog 16 #[.agg cr, .agg cs] W fun e w' => e = .returned (.bool q) ∧ Below W.heap.size W w'
  sy : ∀ W ci, Keeps w W → InP x W ci → Calls Try.prog 12 #[.agg ci, .agg cr] W fun e w' => e = .returned (.bool true) ∧ Below W.heap.size W w'
  ry : ∀ W ci, Keeps w W → InP x W ci → Calls Try.prog 16 #[.agg ci, .agg cr] W fun e w' => e = .returned (.bool true) ∧ Below W.heap.size W w'
  rd : m = true → ∀ W v, RdB W v F → Calls Try.prog 17 #[v] W fun e w' => (∃ ci, e = .returned (.tuple #[.agg ci, .int .i64 0]) ∧ InP x w' ci) ∧ Below W.heap.size W w'
  rf : m = true → ∀ W, Keeps w W → Calls Try.prog 18 #[.agg cr] W (PutP W.heap.size W F)
  sR : cr.size = 7
  sS : cs.size = 7
set_option maxRecDepth 100000 in
set_option maxHeartbeats 6400000 in
theorem replA_w (w : World) (x : Rp) (cr cs : Array Value) (ls m q : Bool) (F : List UInt8) (HC : RlC w x cr cs true ls m q F) : Calls Try.prog 4 #[.agg cr, .agg cs] w fun e w' => e = .returned (.bool true) ∧ Below w.heap.size w w' := by
  obtain ⟨W0, hW0⟩ : ∃ W0, (w.alloc (.cells cr 36)).alloc (.cells cs 36) = W0 := ⟨_, rfl⟩
  have HF := Lib.hid (show Tw w W0 cr cs from by rw [← hW0]; obtain ⟨a, b, c⟩ := two_at w cr cs; exact ⟨a, b, c⟩)
  have HW0 := Lib.hid hW0
  have hsr := HC.sR
  have hss := HC.sS
  have HN := Lib.hid HC
  clear HC hW0
  go_enter Try.func4, Try.ntmps4
  go_upto_region 1 with fail
  rw [HW0.out]
  go_wp2_with (first
    | (refine wpList_load_rr rfl (.tmp 2) rfl rfl HF.out.r hsr ?_)
    | (go_at_call 8; (with_reducible refine (HN.out.lR _ HF.out.keeps).mono ?_); rintro r w1 ⟨rfl, hB⟩; have HF := Lib.hid (HF.out.keep hB); clear hB)
    | (go_at_call 9; (with_reducible refine (known9_w _).mono ?_); rintro r w9 ⟨rfl, hB⟩; have HF := Lib.hid (HF.out.keep hB); clear hB))
  go_ret
  exact ⟨rfl, HF.out.below⟩
set_option maxRecDepth 100000 in
set_option maxHeartbeats 6400000 in
theorem replB_w (w : World) (x : Rp) (cr cs : Array Value) (m q : Bool) (F : List UInt8) (HC : RlC w x cr cs false true m q F) : Calls Try.prog 4 #[.agg cr, .agg cs] w fun e w' => e = .returned (.bool true) ∧ Below w.heap.size w w' := by
  obtain ⟨W0, hW0⟩ : ∃ W0, (w.alloc (.cells cr 36)).alloc (.cells cs 36) = W0 := ⟨_, rfl⟩
  have HF := Lib.hid (show Tw w W0 cr cs from by rw [← hW0]; obtain ⟨a, b, c⟩ := two_at w cr cs; exact ⟨a, b, c⟩)
  have HW0 := Lib.hid hW0
  have hsr := HC.sR
  have hss := HC.sS
  have HN := Lib.hid HC
  clear HC hW0
  go_enter Try.func4, Try.ntmps4
  go_upto_region 1 with fail
  rw [HW0.out]
  go_wp2_with (first
    | (refine wpList_load_rr rfl (.tmp 2) rfl rfl HF.out.r hsr ?_)
    | (refine wpList_load_rr rfl (.tmp 3) rfl rfl HF.out.s hss ?_)
    | (go_at_call 8; (with_reducible refine (HN.out.lR _ HF.out.keeps).mono ?_); rintro r w1 ⟨rfl, hB⟩; have HF := Lib.hid (HF.out.keep hB); clear hB)
    | (go_at_call 8; (with_reducible refine (HN.out.lS _ HF.out.keeps).mono ?_); rintro r w1 ⟨rfl, hB⟩; have HF := Lib.hid (HF.out.keep hB); clear hB)
    | (go_at_call 9; (with_reducible refine (known9_w _).mono ?_); rintro r w9 ⟨rfl, hB⟩; have HF := Lib.hid (HF.out.keep hB); clear hB))
  go_ret
  exact ⟨rfl, HF.out.below⟩
set_option maxRecDepth 100000 in
set_option maxHeartbeats 12800000 in
theorem replC_false_true_w (w : World) (x : Rp) (cr cs : Array Value) (F : List UInt8) (HC : RlC w x cr cs false false false true F) : Calls Try.prog 4 #[.agg cr, .agg cs] w fun e w' => e = .returned (.bool true) ∧ Below w.heap.size w w' := by
  obtain ⟨W0, hW0⟩ : ∃ W0, (w.alloc (.cells cr 36)).alloc (.cells cs 36) = W0 := ⟨_, rfl⟩
  have HF := Lib.hid (show Tw w W0 cr cs from by rw [← hW0]; obtain ⟨a, b, c⟩ := two_at w cr cs; exact ⟨a, b, c⟩)
  have HW0 := Lib.hid hW0
  have hsr := HC.sR
  have hss := HC.sS
  have HN := Lib.hid HC
  clear HC hW0
  go_enter Try.func4, Try.ntmps4
  go_upto_region 1 with fail
  rw [HW0.out]
  have hz := hz36
  obtain ⟨zc, hzc⟩ : ∃ zc, zR = zc := ⟨_, rfl⟩
  rw [hzc] at hz
  have hzs : zc.size = 7 := by rw [← hzc]; rfl
  clear hzc
  go_upto_region 4 with (first
    | (refine wpList_load_rr rfl (.tmp 2) rfl rfl HF.out.r hsr ?_)
    | (refine wpList_load_rr rfl (.tmp 3) rfl rfl HF.out.s hss ?_)
    | (go_at_call 8; (with_reducible refine (HN.out.lR _ HF.out.keeps).mono ?_); rintro r w1 ⟨rfl, hB⟩; have HF := Lib.hid (HF.out.keep hB); clear hB)
    | (go_at_call 8; (with_reducible refine (HN.out.lS _ HF.out.keeps).mono ?_); rintro r w1 ⟨rfl, hB⟩; have HF := Lib.hid (HF.out.keep hB); clear hB)
    | (go_at_call 13; (with_reducible refine (HN.out.cp rfl _ HF.out.keeps).mono ?_); rintro r w2 ⟨⟨ci, rfl, hp⟩, hB⟩; have HF := Lib.hid (HF.out.keep hB); have HP := Lib.hid hp; have hsi := hp.size; have HO := Lib.hid hp.one; clear hB hp)
    | (refine wpList_alloc_zero rfl 36 rfl _ hz ?_)
    | (refine wpList_store_rowTo rfl 36 (.tmp 5) (.tmp 18) rfl rfl _ ci rfl rfl 36 zc (heap_alloc_new w2 _) (show _ = some ci.size by rw [hsi]; kernel_rfl) (by rw [hsi, hzs]) HO.out ?_))
  rw [alloc_setRow]
  obtain ⟨W3, hW3⟩ : ∃ W3, w2.alloc (.cells ci 36) = W3 := ⟨_, rfl⟩
  have HF := Lib.hid (show Th w W3 x cr cs ci w2.heap.size from by rw [← hW3]; exact Th.new HF.out HP.out)
  rw [hW3]
  clear hW3
  obtain ⟨I, hI⟩ : ∃ I, w2.heap.size = I := ⟨_, rfl⟩
  rw [hI] at HF
  rw [hI]
  clear hI
  go_upto_region 5 with (first
    | (refine wpList_load_rr rfl (.tmp 5) rfl rfl HF.out.i hsi ?_)
    | (go_at_call 11; (with_reducible refine (HN.out.wr _ _ HF.out.p).mono ?_); rintro r w4 ⟨⟨p4, n4, c4, rfl, hn4, ho4⟩, hB⟩; have HF := Lib.hid (HF.out.keep hB); have HR := Lib.hid ho4; have HN4 := Lib.hid hn4; clear hB hn4 ho4))
  have HQ := Lib.hid (fun (W : World) (hR : RegT.Grow w4.drew W) => HF.out.keep (((Below.refl _ _).drew.trans hR)))
  apply RegT.wp_region_T rfl 90 26 rfl (by kernel_rfl) RegT.Grow RegT.Grow.refl RegT.Grow.trans
  · apply RegT.T_pure rfl rfl rfl
    · exact fun W hR => load_rr (.tmp 5) rfl rfl (HQ.out W hR).i hsi
    simp only [List.set_cons_succ, List.set_cons_zero, Nat.reduceAdd]
    apply RegT.T_const rfl rfl rfl (.bool false) (fun _ _ h => h)
    · intro W hR hf
      have Hc := Lib.hid (HN.out.my W ci (HQ.out W hR).p)
      clear hR hf
      go_simp
      exact RegT.OpOK_enter Hc.out (fun e w' h => ⟨_, h.1, rfl, h.2⟩)
    simp only [List.set_cons_succ, List.set_cons_zero, Nat.reduceAdd]
    apply RegT.T_pure rfl rfl rfl
    · exact fun W hR => load_rr (.tmp 2) rfl rfl (HQ.out W hR).t.r hsr
    simp only [List.set_cons_succ, List.set_cons_zero, Nat.reduceAdd]
    apply RegT.T_const rfl rfl rfl (.bool false) (fun _ _ h => h)
    · intro W hR hf
      have Hc := Lib.hid (HN.out.rm W (HQ.out W hR).t.keeps)
      clear hR hf
      go_simp
      exact RegT.OpOK_enter Hc.out (fun e w' h => ⟨_, h.1, rfl, h.2⟩)
    simp only [List.set_cons_succ, List.set_cons_zero, Nat.reduceAdd]
    apply RegT.T_pure (v := .bool false) rfl rfl rfl
    · intro W hR; clear hR; go_simp
    simp only [List.set_cons_succ, List.set_cons_zero, Nat.reduceAdd]
    apply RegT.T_pure (v := .bool false) rfl rfl rfl
    · intro W hR; clear hR; go_simp
    simp only [List.set_cons_succ, List.set_cons_zero, Nat.reduceAdd]
    apply RegT.T_pure rfl rfl rfl
    · exact fun W hR => load_rr (.tmp 2) rfl rfl (HQ.out W hR).t.r hsr
    simp only [List.set_cons_succ, List.set_cons_zero, Nat.reduceAdd]
    apply RegT.T_pure rfl rfl rfl
    · exact fun W hR => load_rr (.tmp 3) rfl rfl (HQ.out W hR).t.s hss
    simp only [List.set_cons_succ, List.set_cons_zero, Nat.reduceAdd]
    apply RegT.T_const rfl rfl rfl (.bool true) (fun _ _ h => h)
    · intro W hR hf
      have Hc := Lib.hid (HN.out.sm W (HQ.out W hR).t.keeps)
      clear hR hf
      go_simp
      exact RegT.OpOK_enter Hc.out (fun e w' h => ⟨_, h.1, rfl, h.2⟩)
    simp only [List.set_cons_succ, List.set_cons_zero, Nat.reduceAdd]
    apply RegT.T_pure rfl rfl rfl
    · exact fun W hR => load_rr (.tmp 2) rfl rfl (HQ.out W hR).t.r hsr
    simp only [List.set_cons_succ, List.set_cons_zero, Nat.reduceAdd]
    apply RegT.T_pure rfl rfl rfl
    · exact fun W hR => load_rr (.tmp 3) rfl rfl (HQ.out W hR).t.s hss
    simp only [List.set_cons_succ, List.set_cons_zero, Nat.reduceAdd]
    apply RegT.T_const rfl rfl rfl (.bool true) (fun _ _ h => h)
    · intro W hR hf
      have Hc := Lib.hid (HN.out.rs W (HQ.out W hR).t.keeps)
      clear hR hf
      go_simp
      exact RegT.OpOK_enter Hc.out (fun e w' h => ⟨_, h.1, rfl, h.2⟩)
    simp only [List.set_cons_succ, List.set_cons_zero, Nat.reduceAdd]
    apply RegT.T_pure (v := .bool false) rfl rfl rfl
    · intro W hR; clear hR; go_simp
    simp only [List.set_cons_succ, List.set_cons_zero, Nat.reduceAdd]
    apply RegT.T_pure (v := .bool false) rfl rfl rfl
    · intro W hR; clear hR; go_simp
    simp only [List.set_cons_succ, List.set_cons_zero, Nat.reduceAdd]
    apply RegT.T_pure (v := .bool false) rfl rfl rfl
    · intro W hR; clear hR; go_simp
    simp only [List.set_cons_succ, List.set_cons_zero, Nat.reduceAdd]
    apply RegT.T_pure rfl rfl rfl
    · exact fun W hR => load_rr (.tmp 5) rfl rfl (HQ.out W hR).i hsi
    simp only [List.set_cons_succ, List.set_cons_zero, Nat.reduceAdd]
    apply RegT.T_pure rfl rfl rfl
    · exact fun W hR => load_rr (.tmp 2) rfl rfl (HQ.out W hR).t.r hsr
    simp only [List.set_cons_succ, List.set_cons_zero, Nat.reduceAdd]
    apply RegT.T_const rfl rfl rfl (.bool true) (fun _ _ h => h)
    · intro W hR hf
      have Hc := Lib.hid (HN.out.sy W ci (HQ.out W hR).t.keeps (HQ.out W hR).p)
      clear hR hf
      go_simp
      exact RegT.OpOK_enter Hc.out (fun e w' h => ⟨_, h.1, rfl, h.2⟩)
    simp only [List.set_cons_succ, List.set_cons_zero, Nat.reduceAdd]
    apply RegT.T_pure (v := .bool false) rfl rfl rfl
    · intro W hR; clear hR; go_simp
    simp only [List.set_cons_succ, List.set_cons_zero, Nat.reduceAdd]
    apply RegT.T_pure (v := .bool false) rfl rfl rfl
    · intro W hR; clear hR; go_simp
    simp only [List.set_cons_succ, List.set_cons_zero, Nat.reduceAdd]
    apply RegT.T_pure (v := .bool false) rfl rfl rfl
    · intro W hR; clear hR; go_simp
    simp only [List.set_cons_succ, List.set_cons_zero, Nat.reduceAdd]
    apply RegT.T_pure rfl rfl rfl
    · exact fun W hR => load_rr (.tmp 5) rfl rfl (HQ.out W hR).i hsi
    simp only [List.set_cons_succ, List.set_cons_zero, Nat.reduceAdd]
    apply RegT.T_pure rfl rfl rfl
    · exact fun W hR => load_rr (.tmp 2) rfl rfl (HQ.out W hR).t.r hsr
    simp only [List.set_cons_succ, List.set_cons_zero, Nat.reduceAdd]
    apply RegT.T_const rfl rfl rfl (.bool true) (fun _ _ h => h)
    · intro W hR hf
      have Hc := Lib.hid (HN.out.ry W ci (HQ.out W hR).t.keeps (HQ.out W hR).p)
      clear hR hf
      go_simp
      exact RegT.OpOK_enter Hc.out (fun e w' h => ⟨_, h.1, rfl, h.2⟩)
    simp only [List.set_cons_succ, List.set_cons_zero, Nat.reduceAdd]
    apply RegT.T_pure (v := .bool false) rfl rfl rfl
    · intro W hR; clear hR; go_simp
    simp only [List.set_cons_succ, List.set_cons_zero, Nat.reduceAdd]
    apply RegT.T_pure (v := .bool false) rfl rfl rfl
    · intro W hR; clear hR; go_simp
    simp only [List.set_cons_succ, List.set_cons_zero, Nat.reduceAdd]
    refine RegT.T_end rfl (fun W5 hR hf => ?_)
    have HF := Lib.hid (HQ.out W5 hR)
    have HR5 := Lib.hid (HR.out.keeps ((Keeps.refl _).drew.trans (Below.keeps hR)))
    clear hR hf HQ HR
    obtain rfl : n4 = 0 := (by simpa using HN4.out)
    go_wp2_with (first
      | (refine wpList_load_rr rfl (.tmp 2) rfl rfl HF.out.t.r hsr ?_)
      | (go_at_call 15; (with_reducible refine (HN.out.rm _ HF.out.t.keeps).mono ?_); rintro r w6 ⟨rfl, hB⟩; have HF := Lib.hid (HF.out.keep hB); have HR6 := Lib.hid (HR5.out.keeps (Below.keeps hB)); clear hB)
      | (go_at_call 9; (with_reducible refine (known9_w _).mono ?_); rintro r w9 ⟨rfl, hB⟩; have HF := Lib.hid (HF.out.keep hB); clear hB))
    go_ret
    exact ⟨rfl, HF.out.t.below⟩
  · rfl
  · kernel_rfl
set_option maxRecDepth 100000 in
set_option maxHeartbeats 12800000 in
theorem replC_true_true_w (w : World) (x : Rp) (cr cs : Array Value) (F : List UInt8) (HC : RlC w x cr cs false false true true F) : Calls Try.prog 4 #[.agg cr, .agg cs] w fun e w' => e = .returned (.bool true) ∧ Below w.heap.size w w' := by
  obtain ⟨W0, hW0⟩ : ∃ W0, (w.alloc (.cells cr 36)).alloc (.cells cs 36) = W0 := ⟨_, rfl⟩
  have HF := Lib.hid (show Tw w W0 cr cs from by rw [← hW0]; obtain ⟨a, b, c⟩ := two_at w cr cs; exact ⟨a, b, c⟩)
  have HW0 := Lib.hid hW0
  have hsr := HC.sR
  have hss := HC.sS
  have HN := Lib.hid HC
  clear HC hW0
  go_enter Try.func4, Try.ntmps4
  go_upto_region 1 with fail
  rw [HW0.out]
  have hz := hz36
  obtain ⟨zc, hzc⟩ : ∃ zc, zR = zc := ⟨_, rfl⟩
  rw [hzc] at hz
  have hzs : zc.size = 7 := by rw [← hzc]; rfl
  clear hzc
  go_upto_region 4 with (first
    | (refine wpList_load_rr rfl (.tmp 2) rfl rfl HF.out.r hsr ?_)
    | (refine wpList_load_rr rfl (.tmp 3) rfl rfl HF.out.s hss ?_)
    | (go_at_call 8; (with_reducible refine (HN.out.lR _ HF.out.keeps).mono ?_); rintro r w1 ⟨rfl, hB⟩; have HF := Lib.hid (HF.out.keep hB); clear hB)
    | (go_at_call 8; (with_reducible refine (HN.out.lS _ HF.out.keeps).mono ?_); rintro r w1 ⟨rfl, hB⟩; have HF := Lib.hid (HF.out.keep hB); clear hB)
    | (go_at_call 13; (with_reducible refine (HN.out.cp rfl _ HF.out.keeps).mono ?_); rintro r w2 ⟨⟨ci, rfl, hp⟩, hB⟩; have HF := Lib.hid (HF.out.keep hB); have HP := Lib.hid hp; have hsi := hp.size; have HO := Lib.hid hp.one; clear hB hp)
    | (refine wpList_alloc_zero rfl 36 rfl _ hz ?_)
    | (refine wpList_store_rowTo rfl 36 (.tmp 5) (.tmp 18) rfl rfl _ ci rfl rfl 36 zc (heap_alloc_new w2 _) (show _ = some ci.size by rw [hsi]; kernel_rfl) (by rw [hsi, hzs]) HO.out ?_))
  rw [alloc_setRow]
  obtain ⟨W3, hW3⟩ : ∃ W3, w2.alloc (.cells ci 36) = W3 := ⟨_, rfl⟩
  have HF := Lib.hid (show Th w W3 x cr cs ci w2.heap.size from by rw [← hW3]; exact Th.new HF.out HP.out)
  rw [hW3]
  clear hW3
  obtain ⟨I, hI⟩ : ∃ I, w2.heap.size = I := ⟨_, rfl⟩
  rw [hI] at HF
  rw [hI]
  clear hI
  go_upto_region 5 with (first
    | (refine wpList_load_rr rfl (.tmp 5) rfl rfl HF.out.i hsi ?_)
    | (go_at_call 11; (with_reducible refine (HN.out.wr _ _ HF.out.p).mono ?_); rintro r w4 ⟨⟨p4, n4, c4, rfl, hn4, ho4⟩, hB⟩; have HF := Lib.hid (HF.out.keep hB); have HR := Lib.hid ho4; have HN4 := Lib.hid hn4; clear hB hn4 ho4))
  have HQ := Lib.hid (fun (W : World) (hR : RegT.Grow w4.drew W) => HF.out.keep (((Below.refl _ _).drew.trans hR)))
  apply RegT.wp_region_T rfl 90 26 rfl (by kernel_rfl) RegT.Grow RegT.Grow.refl RegT.Grow.trans
  · apply RegT.T_pure rfl rfl rfl
    · exact fun W hR => load_rr (.tmp 5) rfl rfl (HQ.out W hR).i hsi
    simp only [List.set_cons_succ, List.set_cons_zero, Nat.reduceAdd]
    apply RegT.T_const rfl rfl rfl (.bool true) (fun _ _ h => h)
    · intro W hR hf
      have Hc := Lib.hid (HN.out.my W ci (HQ.out W hR).p)
      clear hR hf
      go_simp
      exact RegT.OpOK_enter Hc.out (fun e w' h => ⟨_, h.1, rfl, h.2⟩)
    simp only [List.set_cons_succ, List.set_cons_zero, Nat.reduceAdd]
    apply RegT.T_pure rfl rfl rfl
    · exact fun W hR => load_rr (.tmp 2) rfl rfl (HQ.out W hR).t.r hsr
    simp only [List.set_cons_succ, List.set_cons_zero, Nat.reduceAdd]
    apply RegT.T_const rfl rfl rfl (.bool true) (fun _ _ h => h)
    · intro W hR hf
      have Hc := Lib.hid (HN.out.rm W (HQ.out W hR).t.keeps)
      clear hR hf
      go_simp
      exact RegT.OpOK_enter Hc.out (fun e w' h => ⟨_, h.1, rfl, h.2⟩)
    simp only [List.set_cons_succ, List.set_cons_zero, Nat.reduceAdd]
    apply RegT.T_pure (v := .bool false) rfl rfl rfl
    · intro W hR; clear hR; go_simp
    simp only [List.set_cons_succ, List.set_cons_zero, Nat.reduceAdd]
    apply RegT.T_pure (v := .bool false) rfl rfl rfl
    · intro W hR; clear hR; go_simp
    simp only [List.set_cons_succ, List.set_cons_zero, Nat.reduceAdd]
    apply RegT.T_pure rfl rfl rfl
    · exact fun W hR => load_rr (.tmp 2) rfl rfl (HQ.out W hR).t.r hsr
    simp only [List.set_cons_succ, List.set_cons_zero, Nat.reduceAdd]
    apply RegT.T_pure rfl rfl rfl
    · exact fun W hR => load_rr (.tmp 3) rfl rfl (HQ.out W hR).t.s hss
    simp only [List.set_cons_succ, List.set_cons_zero, Nat.reduceAdd]
    apply RegT.T_const rfl rfl rfl (.bool true) (fun _ _ h => h)
    · intro W hR hf
      have Hc := Lib.hid (HN.out.sm W (HQ.out W hR).t.keeps)
      clear hR hf
      go_simp
      exact RegT.OpOK_enter Hc.out (fun e w' h => ⟨_, h.1, rfl, h.2⟩)
    simp only [List.set_cons_succ, List.set_cons_zero, Nat.reduceAdd]
    apply RegT.T_pure rfl rfl rfl
    · exact fun W hR => load_rr (.tmp 2) rfl rfl (HQ.out W hR).t.r hsr
    simp only [List.set_cons_succ, List.set_cons_zero, Nat.reduceAdd]
    apply RegT.T_pure rfl rfl rfl
    · exact fun W hR => load_rr (.tmp 3) rfl rfl (HQ.out W hR).t.s hss
    simp only [List.set_cons_succ, List.set_cons_zero, Nat.reduceAdd]
    apply RegT.T_const rfl rfl rfl (.bool true) (fun _ _ h => h)
    · intro W hR hf
      have Hc := Lib.hid (HN.out.rs W (HQ.out W hR).t.keeps)
      clear hR hf
      go_simp
      exact RegT.OpOK_enter Hc.out (fun e w' h => ⟨_, h.1, rfl, h.2⟩)
    simp only [List.set_cons_succ, List.set_cons_zero, Nat.reduceAdd]
    apply RegT.T_pure (v := .bool false) rfl rfl rfl
    · intro W hR; clear hR; go_simp
    simp only [List.set_cons_succ, List.set_cons_zero, Nat.reduceAdd]
    apply RegT.T_pure (v := .bool false) rfl rfl rfl
    · intro W hR; clear hR; go_simp
    simp only [List.set_cons_succ, List.set_cons_zero, Nat.reduceAdd]
    apply RegT.T_pure (v := .bool false) rfl rfl rfl
    · intro W hR; clear hR; go_simp
    simp only [List.set_cons_succ, List.set_cons_zero, Nat.reduceAdd]
    apply RegT.T_pure rfl rfl rfl
    · exact fun W hR => load_rr (.tmp 5) rfl rfl (HQ.out W hR).i hsi
    simp only [List.set_cons_succ, List.set_cons_zero, Nat.reduceAdd]
    apply RegT.T_pure rfl rfl rfl
    · exact fun W hR => load_rr (.tmp 2) rfl rfl (HQ.out W hR).t.r hsr
    simp only [List.set_cons_succ, List.set_cons_zero, Nat.reduceAdd]
    apply RegT.T_const rfl rfl rfl (.bool true) (fun _ _ h => h)
    · intro W hR hf
      have Hc := Lib.hid (HN.out.sy W ci (HQ.out W hR).t.keeps (HQ.out W hR).p)
      clear hR hf
      go_simp
      exact RegT.OpOK_enter Hc.out (fun e w' h => ⟨_, h.1, rfl, h.2⟩)
    simp only [List.set_cons_succ, List.set_cons_zero, Nat.reduceAdd]
    apply RegT.T_pure (v := .bool false) rfl rfl rfl
    · intro W hR; clear hR; go_simp
    simp only [List.set_cons_succ, List.set_cons_zero, Nat.reduceAdd]
    apply RegT.T_pure (v := .bool false) rfl rfl rfl
    · intro W hR; clear hR; go_simp
    simp only [List.set_cons_succ, List.set_cons_zero, Nat.reduceAdd]
    apply RegT.T_pure (v := .bool false) rfl rfl rfl
    · intro W hR; clear hR; go_simp
    simp only [List.set_cons_succ, List.set_cons_zero, Nat.reduceAdd]
    apply RegT.T_pure rfl rfl rfl
    · exact fun W hR => load_rr (.tmp 5) rfl rfl (HQ.out W hR).i hsi
    simp only [List.set_cons_succ, List.set_cons_zero, Nat.reduceAdd]
    apply RegT.T_pure rfl rfl rfl
    · exact fun W hR => load_rr (.tmp 2) rfl rfl (HQ.out W hR).t.r hsr
    simp only [List.set_cons_succ, List.set_cons_zero, Nat.reduceAdd]
    apply RegT.T_const rfl rfl rfl (.bool true) (fun _ _ h => h)
    · intro W hR hf
      have Hc := Lib.hid (HN.out.ry W ci (HQ.out W hR).t.keeps (HQ.out W hR).p)
      clear hR hf
      go_simp
      exact RegT.OpOK_enter Hc.out (fun e w' h => ⟨_, h.1, rfl, h.2⟩)
    simp only [List.set_cons_succ, List.set_cons_zero, Nat.reduceAdd]
    apply RegT.T_pure (v := .bool false) rfl rfl rfl
    · intro W hR; clear hR; go_simp
    simp only [List.set_cons_succ, List.set_cons_zero, Nat.reduceAdd]
    apply RegT.T_pure (v := .bool false) rfl rfl rfl
    · intro W hR; clear hR; go_simp
    simp only [List.set_cons_succ, List.set_cons_zero, Nat.reduceAdd]
    refine RegT.T_end rfl (fun W5 hR hf => ?_)
    have HF := Lib.hid (HQ.out W5 hR)
    have HR5 := Lib.hid (HR.out.keeps ((Keeps.refl _).drew.trans (Below.keeps hR)))
    clear hR hf HQ HR
    go_upto_region 10 with (first
      | (refine wpList_load_rr rfl (.tmp 2) rfl rfl HF.out.t.r hsr ?_)
      | (go_at_call 15; (with_reducible refine (HN.out.rm _ HF.out.t.keeps).mono ?_); rintro r w6 ⟨rfl, hB⟩; have HF := Lib.hid (HF.out.keep hB); have HR6 := Lib.hid (HR5.out.keeps (Below.keeps hB)); clear hB)
      | (go_at_call 17; (with_reducible refine (HN.out.rd rfl _ _ HR6.out).mono ?_); rintro r w7 ⟨⟨ct, rfl, hp⟩, hB⟩; have HF := Lib.hid (HF.out.keep hB); have HR7 := Lib.hid (HR6.out.keeps (Below.keeps hB)); have HP7 := Lib.hid hp; have hst := hp.size; have HO7 := Lib.hid hp.one; clear hB hp)
      | (refine wpList_alloc_zero rfl 36 rfl _ hz ?_)
      | (refine wpList_store_rowTo rfl 36 (.tmp 8) (.tmp 66) rfl rfl _ ct rfl rfl 36 zc (heap_alloc_new w7 _) (show _ = some ct.size by rw [hst]; kernel_rfl) (by rw [hst, hzs]) HO7.out ?_))
    rw [alloc_setRow]
    obtain ⟨W8, hW8⟩ : ∃ W8, w7.alloc (.cells ct 36) = W8 := ⟨_, rfl⟩
    have HD := Lib.hid (show Th w W8 x cr cs ct w7.heap.size from by rw [← hW8]; exact Th.new HF.out.t HP7.out)
    have HR8 := Lib.hid (show RdB W8 (.slice p4 n4 c4) F from by rw [← hW8]; exact HR7.out.keeps ((Keeps.refl w7).alloc _))
    rw [hW8]
    clear hW8 HR5 HR6 HR7
    obtain ⟨J, hJ⟩ : ∃ J, w7.heap.size = J := ⟨_, rfl⟩
    rw [hJ] at HD
    rw [hJ]
    clear hJ
    have HQ := Lib.hid (fun (W : World) (hR : RegT.Grow W8.drew W) => And.intro (HD.out.keep ((Below.refl _ _).drew.trans hR)) (HR8.out.keeps ((Keeps.refl _).drew.trans (Below.keeps hR))))
    apply RegT.wp_region_T rfl 90 23 rfl (by kernel_rfl) RegT.Grow RegT.Grow.refl RegT.Grow.trans
    · apply RegT.T_pure rfl rfl rfl
      · intro W hR; clear hR; go_simp; rfl
      simp only [List.set_cons_succ, List.set_cons_zero, Nat.reduceAdd]
      apply RegT.T_pure (v := .bool true) rfl rfl rfl
      · intro W hR; clear hR; go_simp
      simp only [List.set_cons_succ, List.set_cons_zero, Nat.reduceAdd]
      apply RegT.T_pure (v := .bool true) rfl rfl rfl
      · intro W hR; clear hR; go_simp
      simp only [List.set_cons_succ, List.set_cons_zero, Nat.reduceAdd]
      apply RegT.T_pure rfl rfl rfl
      · intro W hR; clear hR; go_simp; rfl
      simp only [List.set_cons_succ, List.set_cons_zero, Nat.reduceAdd]
      apply RegT.T_pure (v := .bool true) rfl rfl rfl
      · intro W hR; clear hR; go_simp
      simp only [List.set_cons_succ, List.set_cons_zero, Nat.reduceAdd]
      apply RegT.T_pure (v := .bool true) rfl rfl rfl
      · intro W hR; clear hR; go_simp
      simp only [List.set_cons_succ, List.set_cons_zero, Nat.reduceAdd]
      apply RegT.T_pure (v := .bool true) rfl rfl rfl
      · intro W hR; clear hR; go_simp
      simp only [List.set_cons_succ, List.set_cons_zero, Nat.reduceAdd]
      apply RegT.T_pure rfl rfl rfl
      · exact fun W hR => load_rr (.tmp 8) rfl rfl (HQ.out W hR).1.i hst
      simp only [List.set_cons_succ, List.set_cons_zero, Nat.reduceAdd]
      apply RegT.T_pure rfl rfl rfl
      · exact fun W hR => load_rr (.tmp 2) rfl rfl (HQ.out W hR).1.t.r hsr
      simp only [List.set_cons_succ, List.set_cons_zero, Nat.reduceAdd]
      apply RegT.T_const rfl rfl rfl (.bool true) (fun _ _ h => h)
      · intro W hR hf
        have Hc := Lib.hid (HN.out.ry W ct (HQ.out W hR).1.t.keeps (HQ.out W hR).1.p)
        clear hR hf
        go_simp
        exact RegT.OpOK_enter Hc.out (fun e w' h => ⟨_, h.1, rfl, h.2⟩)
      simp only [List.set_cons_succ, List.set_cons_zero, Nat.reduceAdd]
      apply RegT.T_pure (v := .bool true) rfl rfl rfl
      · intro W hR; clear hR; go_simp
      simp only [List.set_cons_succ, List.set_cons_zero, Nat.reduceAdd]
      apply RegT.T_pure (v := .bool true) rfl rfl rfl
      · intro W hR; clear hR; go_simp
      simp only [List.set_cons_succ, List.set_cons_zero, Nat.reduceAdd]
      apply RegT.T_pure rfl rfl rfl
      · intro W hR; clear hR; go_simp; rfl
      simp only [List.set_cons_succ, List.set_cons_zero, Nat.reduceAdd]
      apply RegT.T_pure (v := .string ⟨F.toArray⟩) rfl rfl rfl
      · intro W hR
        have hc := run_convert_str (P := Try.prog) (HQ.out W hR).2 39 5 9 Try.underlying39 Try.underlying5 Try.underlying9
        clear hR
        go_simp
      simp only [List.set_cons_succ, List.set_cons_zero, Nat.reduceAdd]
      apply RegT.T_pure rfl rfl rfl
      · exact fun W hR => load_rr (.tmp 2) rfl rfl (HQ.out W hR).1.t.r hsr
      simp only [List.set_cons_succ, List.set_cons_zero, Nat.reduceAdd]
      apply RegT.T_predC rfl rfl rfl 16 (fun v w => RdB w v F) (fun _ _ h => h) (fun v x y hR h => RdB.keeps h hR.block)
      · intro W hR hf
        have Hc := Lib.hid (HN.out.rf rfl W (HQ.out W hR).1.t.keeps)
        clear hR hf
        go_simp
        exact RegT.OpOK_enter Hc.out (fun e w' ⟨p, k, c, he, hk, ho, hB⟩ => ⟨_, he, ho.rd, hB⟩)
      intro v15
      simp only [List.set_cons_succ, List.set_cons_zero, Nat.reduceAdd]
      apply RegT.T_const rfl rfl rfl (.string ⟨F.toArray⟩) (fun _ _ h => h)
      · intro W hR hf
        have hb := hf _ (.head _) (by kernel_rfl) (.inr rfl)
        have hc := run_convert_str (P := Try.prog) hb 39 5 9 Try.underlying39 Try.underlying5 Try.underlying9
        clear hR hf hb
        go_simp
        exact RegT.OpOK_value ⟨rfl, Below.refl _ _⟩
      simp only [List.set_cons_succ, List.set_cons_zero, Nat.reduceAdd]
      apply RegT.T_pure (v := .bool true) rfl rfl rfl
      · intro W hR; clear hR; go_simp
      simp only [List.set_cons_succ, List.set_cons_zero, Nat.reduceAdd]
      apply RegT.T_pure (v := .bool true) rfl rfl rfl
      · intro W hR; clear hR; go_simp
      simp only [List.set_cons_succ, List.set_cons_zero, Nat.reduceAdd]
      apply RegT.T_pure (v := .bool true) rfl rfl rfl
      · intro W hR; clear hR; go_simp
      simp only [List.set_cons_succ, List.set_cons_zero, Nat.reduceAdd]
      apply RegT.T_const rfl rfl rfl (.bool true) (fun _ _ h => h)
      · intro W hR hf
        have Hc := Lib.hid (known9_w W)
        clear hR hf
        go_simp
        exact RegT.OpOK_enter Hc.out (fun e w' h => ⟨_, h.1, rfl, h.2⟩)
      simp only [List.set_cons_succ, List.set_cons_zero, Nat.reduceAdd]
      apply RegT.T_pure (v := .bool true) rfl rfl rfl
      · intro W hR; clear hR; go_simp
      simp only [List.set_cons_succ, List.set_cons_zero, Nat.reduceAdd]
      apply RegT.T_pure rfl rfl rfl
      · intro W hR; clear hR; go_simp; rfl
      simp only [List.set_cons_succ, List.set_cons_zero, Nat.reduceAdd]
      refine RegT.T_end rfl (fun W9 hR hf => ?_)
      have HB9 := Lib.hid (HQ.out W9 hR).1.t.below
      clear hR hf HQ
      go_wp2
      go_ret
      exact ⟨rfl, HB9.out⟩
    · rfl
    · kernel_rfl
  · rfl
  · kernel_rfl
set_option maxRecDepth 100000 in
set_option maxHeartbeats 12800000 in
theorem replC_false_false_w (w : World) (x : Rp) (cr cs : Array Value) (F : List UInt8) (HC : RlC w x cr cs false false false false F) : Calls Try.prog 4 #[.agg cr, .agg cs] w fun e w' => e = .returned (.bool true) ∧ Below w.heap.size w w' := by
  obtain ⟨W0, hW0⟩ : ∃ W0, (w.alloc (.cells cr 36)).alloc (.cells cs 36) = W0 := ⟨_, rfl⟩
  have HF := Lib.hid (show Tw w W0 cr cs from by rw [← hW0]; obtain ⟨a, b, c⟩ := two_at w cr cs; exact ⟨a, b, c⟩)
  have HW0 := Lib.hid hW0
  have hsr := HC.sR
  have hss := HC.sS
  have HN := Lib.hid HC
  clear HC hW0
  go_enter Try.func4, Try.ntmps4
  go_upto_region 1 with fail
  rw [HW0.out]
  have hz := hz36
  obtain ⟨zc, hzc⟩ : ∃ zc, zR = zc := ⟨_, rfl⟩
  rw [hzc] at hz
  have hzs : zc.size = 7 := by rw [← hzc]; rfl
  clear hzc
  go_upto_region 4 with (first
    | (refine wpList_load_rr rfl (.tmp 2) rfl rfl HF.out.r hsr ?_)
    | (refine wpList_load_rr rfl (.tmp 3) rfl rfl HF.out.s hss ?_)
    | (go_at_call 8; (with_reducible refine (HN.out.lR _ HF.out.keeps).mono ?_); rintro r w1 ⟨rfl, hB⟩; have HF := Lib.hid (HF.out.keep hB); clear hB)
    | (go_at_call 8; (with_reducible refine (HN.out.lS _ HF.out.keeps).mono ?_); rintro r w1 ⟨rfl, hB⟩; have HF := Lib.hid (HF.out.keep hB); clear hB)
    | (go_at_call 13; (with_reducible refine (HN.out.cp rfl _ HF.out.keeps).mono ?_); rintro r w2 ⟨⟨ci, rfl, hp⟩, hB⟩; have HF := Lib.hid (HF.out.keep hB); have HP := Lib.hid hp; have hsi := hp.size; have HO := Lib.hid hp.one; clear hB hp)
    | (refine wpList_alloc_zero rfl 36 rfl _ hz ?_)
    | (refine wpList_store_rowTo rfl 36 (.tmp 5) (.tmp 18) rfl rfl _ ci rfl rfl 36 zc (heap_alloc_new w2 _) (show _ = some ci.size by rw [hsi]; kernel_rfl) (by rw [hsi, hzs]) HO.out ?_))
  rw [alloc_setRow]
  obtain ⟨W3, hW3⟩ : ∃ W3, w2.alloc (.cells ci 36) = W3 := ⟨_, rfl⟩
  have HF := Lib.hid (show Th w W3 x cr cs ci w2.heap.size from by rw [← hW3]; exact Th.new HF.out HP.out)
  rw [hW3]
  clear hW3
  obtain ⟨I, hI⟩ : ∃ I, w2.heap.size = I := ⟨_, rfl⟩
  rw [hI] at HF
  rw [hI]
  clear hI
  go_upto_region 5 with (first
    | (refine wpList_load_rr rfl (.tmp 5) rfl rfl HF.out.i hsi ?_)
    | (go_at_call 11; (with_reducible refine (HN.out.wr _ _ HF.out.p).mono ?_); rintro r w4 ⟨⟨p4, n4, c4, rfl, hn4, ho4⟩, hB⟩; have HF := Lib.hid (HF.out.keep hB); have HR := Lib.hid ho4; have HN4 := Lib.hid hn4; clear hB hn4 ho4))
  have HQ := Lib.hid (fun (W : World) (hR : RegT.Grow w4.drew W) => HF.out.keep (((Below.refl _ _).drew.trans hR)))
  apply RegT.wp_region_T rfl 90 26 rfl (by kernel_rfl) RegT.Grow RegT.Grow.refl RegT.Grow.trans
  · apply RegT.T_pure rfl rfl rfl
    · exact fun W hR => load_rr (.tmp 5) rfl rfl (HQ.out W hR).i hsi
    simp only [List.set_cons_succ, List.set_cons_zero, Nat.reduceAdd]
    apply RegT.T_const rfl rfl rfl (.bool false) (fun _ _ h => h)
    · intro W hR hf
      have Hc := Lib.hid (HN.out.my W ci (HQ.out W hR).p)
      clear hR hf
      go_simp
      exact RegT.OpOK_enter Hc.out (fun e w' h => ⟨_, h.1, rfl, h.2⟩)
    simp only [List.set_cons_succ, List.set_cons_zero, Nat.reduceAdd]
    apply RegT.T_pure rfl rfl rfl
    · exact fun W hR => load_rr (.tmp 2) rfl rfl (HQ.out W hR).t.r hsr
    simp only [List.set_cons_succ, List.set_cons_zero, Nat.reduceAdd]
    apply RegT.T_const rfl rfl rfl (.bool false) (fun _ _ h => h)
    · intro W hR hf
      have Hc := Lib.hid (HN.out.rm W (HQ.out W hR).t.keeps)
      clear hR hf
      go_simp
      exact RegT.OpOK_enter Hc.out (fun e w' h => ⟨_, h.1, rfl, h.2⟩)
    simp only [List.set_cons_succ, List.set_cons_zero, Nat.reduceAdd]
    apply RegT.T_pure (v := .bool false) rfl rfl rfl
    · intro W hR; clear hR; go_simp
    simp only [List.set_cons_succ, List.set_cons_zero, Nat.reduceAdd]
    apply RegT.T_pure (v := .bool false) rfl rfl rfl
    · intro W hR; clear hR; go_simp
    simp only [List.set_cons_succ, List.set_cons_zero, Nat.reduceAdd]
    apply RegT.T_pure rfl rfl rfl
    · exact fun W hR => load_rr (.tmp 2) rfl rfl (HQ.out W hR).t.r hsr
    simp only [List.set_cons_succ, List.set_cons_zero, Nat.reduceAdd]
    apply RegT.T_pure rfl rfl rfl
    · exact fun W hR => load_rr (.tmp 3) rfl rfl (HQ.out W hR).t.s hss
    simp only [List.set_cons_succ, List.set_cons_zero, Nat.reduceAdd]
    apply RegT.T_const rfl rfl rfl (.bool false) (fun _ _ h => h)
    · intro W hR hf
      have Hc := Lib.hid (HN.out.sm W (HQ.out W hR).t.keeps)
      clear hR hf
      go_simp
      exact RegT.OpOK_enter Hc.out (fun e w' h => ⟨_, h.1, rfl, h.2⟩)
    simp only [List.set_cons_succ, List.set_cons_zero, Nat.reduceAdd]
    apply RegT.T_pure rfl rfl rfl
    · exact fun W hR => load_rr (.tmp 2) rfl rfl (HQ.out W hR).t.r hsr
    simp only [List.set_cons_succ, List.set_cons_zero, Nat.reduceAdd]
    apply RegT.T_pure rfl rfl rfl
    · exact fun W hR => load_rr (.tmp 3) rfl rfl (HQ.out W hR).t.s hss
    simp only [List.set_cons_succ, List.set_cons_zero, Nat.reduceAdd]
    apply RegT.T_const rfl rfl rfl (.bool false) (fun _ _ h => h)
    · intro W hR hf
      have Hc := Lib.hid (HN.out.rs W (HQ.out W hR).t.keeps)
      clear hR hf
      go_simp
      exact RegT.OpOK_enter Hc.out (fun e w' h => ⟨_, h.1, rfl, h.2⟩)
    simp only [List.set_cons_succ, List.set_cons_zero, Nat.reduceAdd]
    apply RegT.T_pure (v := .bool false) rfl rfl rfl
    · intro W hR; clear hR; go_simp
    simp only [List.set_cons_succ, List.set_cons_zero, Nat.reduceAdd]
    apply RegT.T_pure (v := .bool false) rfl rfl rfl
    · intro W hR; clear hR; go_simp
    simp only [List.set_cons_succ, List.set_cons_zero, Nat.reduceAdd]
    apply RegT.T_pure (v := .bool false) rfl rfl rfl
    · intro W hR; clear hR; go_simp
    simp only [List.set_cons_succ, List.set_cons_zero, Nat.reduceAdd]
    apply RegT.T_pure rfl rfl rfl
    · exact fun W hR => load_rr (.tmp 5) rfl rfl (HQ.out W hR).i hsi
    simp only [List.set_cons_succ, List.set_cons_zero, Nat.reduceAdd]
    apply RegT.T_pure rfl rfl rfl
    · exact fun W hR => load_rr (.tmp 2) rfl rfl (HQ.out W hR).t.r hsr
    simp only [List.set_cons_succ, List.set_cons_zero, Nat.reduceAdd]
    apply RegT.T_const rfl rfl rfl (.bool true) (fun _ _ h => h)
    · intro W hR hf
      have Hc := Lib.hid (HN.out.sy W ci (HQ.out W hR).t.keeps (HQ.out W hR).p)
      clear hR hf
      go_simp
      exact RegT.OpOK_enter Hc.out (fun e w' h => ⟨_, h.1, rfl, h.2⟩)
    simp only [List.set_cons_succ, List.set_cons_zero, Nat.reduceAdd]
    apply RegT.T_pure (v := .bool false) rfl rfl rfl
    · intro W hR; clear hR; go_simp
    simp only [List.set_cons_succ, List.set_cons_zero, Nat.reduceAdd]
    apply RegT.T_pure (v := .bool false) rfl rfl rfl
    · intro W hR; clear hR; go_simp
    simp only [List.set_cons_succ, List.set_cons_zero, Nat.reduceAdd]
    apply RegT.T_pure (v := .bool false) rfl rfl rfl
    · intro W hR; clear hR; go_simp
    simp only [List.set_cons_succ, List.set_cons_zero, Nat.reduceAdd]
    apply RegT.T_pure rfl rfl rfl
    · exact fun W hR => load_rr (.tmp 5) rfl rfl (HQ.out W hR).i hsi
    simp only [List.set_cons_succ, List.set_cons_zero, Nat.reduceAdd]
    apply RegT.T_pure rfl rfl rfl
    · exact fun W hR => load_rr (.tmp 2) rfl rfl (HQ.out W hR).t.r hsr
    simp only [List.set_cons_succ, List.set_cons_zero, Nat.reduceAdd]
    apply RegT.T_const rfl rfl rfl (.bool true) (fun _ _ h => h)
    · intro W hR hf
      have Hc := Lib.hid (HN.out.ry W ci (HQ.out W hR).t.keeps (HQ.out W hR).p)
      clear hR hf
      go_simp
      exact RegT.OpOK_enter Hc.out (fun e w' h => ⟨_, h.1, rfl, h.2⟩)
    simp only [List.set_cons_succ, List.set_cons_zero, Nat.reduceAdd]
    apply RegT.T_pure (v := .bool false) rfl rfl rfl
    · intro W hR; clear hR; go_simp
    simp only [List.set_cons_succ, List.set_cons_zero, Nat.reduceAdd]
    apply RegT.T_pure (v := .bool false) rfl rfl rfl
    · intro W hR; clear hR; go_simp
    simp only [List.set_cons_succ, List.set_cons_zero, Nat.reduceAdd]
    refine RegT.T_end rfl (fun W5 hR hf => ?_)
    have HF := Lib.hid (HQ.out W5 hR)
    have HR5 := Lib.hid (HR.out.keeps ((Keeps.refl _).drew.trans (Below.keeps hR)))
    clear hR hf HQ HR
    obtain rfl : n4 = 0 := (by simpa using HN4.out)
    go_wp2_with (first
      | (refine wpList_load_rr rfl (.tmp 2) rfl rfl HF.out.t.r hsr ?_)
      | (go_at_call 15; (with_reducible refine (HN.out.rm _ HF.out.t.keeps).mono ?_); rintro r w6 ⟨rfl, hB⟩; have HF := Lib.hid (HF.out.keep hB); have HR6 := Lib.hid (HR5.out.keeps (Below.keeps hB)); clear hB)
      | (go_at_call 9; (with_reducible refine (known9_w _).mono ?_); rintro r w9 ⟨rfl, hB⟩; have HF := Lib.hid (HF.out.keep hB); clear hB))
    go_ret
    exact ⟨rfl, HF.out.t.below⟩
  · rfl
  · kernel_rfl
set_option maxRecDepth 100000 in
set_option maxHeartbeats 12800000 in
theorem replC_true_false_w (w : World) (x : Rp) (cr cs : Array Value) (F : List UInt8) (HC : RlC w x cr cs false false true false F) : Calls Try.prog 4 #[.agg cr, .agg cs] w fun e w' => e = .returned (.bool true) ∧ Below w.heap.size w w' := by
  obtain ⟨W0, hW0⟩ : ∃ W0, (w.alloc (.cells cr 36)).alloc (.cells cs 36) = W0 := ⟨_, rfl⟩
  have HF := Lib.hid (show Tw w W0 cr cs from by rw [← hW0]; obtain ⟨a, b, c⟩ := two_at w cr cs; exact ⟨a, b, c⟩)
  have HW0 := Lib.hid hW0
  have hsr := HC.sR
  have hss := HC.sS
  have HN := Lib.hid HC
  clear HC hW0
  go_enter Try.func4, Try.ntmps4
  go_upto_region 1 with fail
  rw [HW0.out]
  have hz := hz36
  obtain ⟨zc, hzc⟩ : ∃ zc, zR = zc := ⟨_, rfl⟩
  rw [hzc] at hz
  have hzs : zc.size = 7 := by rw [← hzc]; rfl
  clear hzc
  go_upto_region 4 with (first
    | (refine wpList_load_rr rfl (.tmp 2) rfl rfl HF.out.r hsr ?_)
    | (refine wpList_load_rr rfl (.tmp 3) rfl rfl HF.out.s hss ?_)
    | (go_at_call 8; (with_reducible refine (HN.out.lR _ HF.out.keeps).mono ?_); rintro r w1 ⟨rfl, hB⟩; have HF := Lib.hid (HF.out.keep hB); clear hB)
    | (go_at_call 8; (with_reducible refine (HN.out.lS _ HF.out.keeps).mono ?_); rintro r w1 ⟨rfl, hB⟩; have HF := Lib.hid (HF.out.keep hB); clear hB)
    | (go_at_call 13; (with_reducible refine (HN.out.cp rfl _ HF.out.keeps).mono ?_); rintro r w2 ⟨⟨ci, rfl, hp⟩, hB⟩; have HF := Lib.hid (HF.out.keep hB); have HP := Lib.hid hp; have hsi := hp.size; have HO := Lib.hid hp.one; clear hB hp)
    | (refine wpList_alloc_zero rfl 36 rfl _ hz ?_)
    | (refine wpList_store_rowTo rfl 36 (.tmp 5) (.tmp 18) rfl rfl _ ci rfl rfl 36 zc (heap_alloc_new w2 _) (show _ = some ci.size by rw [hsi]; kernel_rfl) (by rw [hsi, hzs]) HO.out ?_))
  rw [alloc_setRow]
  obtain ⟨W3, hW3⟩ : ∃ W3, w2.alloc (.cells ci 36) = W3 := ⟨_, rfl⟩
  have HF := Lib.hid (show Th w W3 x cr cs ci w2.heap.size from by rw [← hW3]; exact Th.new HF.out HP.out)
  rw [hW3]
  clear hW3
  obtain ⟨I, hI⟩ : ∃ I, w2.heap.size = I := ⟨_, rfl⟩
  rw [hI] at HF
  rw [hI]
  clear hI
  go_upto_region 5 with (first
    | (refine wpList_load_rr rfl (.tmp 5) rfl rfl HF.out.i hsi ?_)
    | (go_at_call 11; (with_reducible refine (HN.out.wr _ _ HF.out.p).mono ?_); rintro r w4 ⟨⟨p4, n4, c4, rfl, hn4, ho4⟩, hB⟩; have HF := Lib.hid (HF.out.keep hB); have HR := Lib.hid ho4; have HN4 := Lib.hid hn4; clear hB hn4 ho4))
  have HQ := Lib.hid (fun (W : World) (hR : RegT.Grow w4.drew W) => HF.out.keep (((Below.refl _ _).drew.trans hR)))
  apply RegT.wp_region_T rfl 90 26 rfl (by kernel_rfl) RegT.Grow RegT.Grow.refl RegT.Grow.trans
  · apply RegT.T_pure rfl rfl rfl
    · exact fun W hR => load_rr (.tmp 5) rfl rfl (HQ.out W hR).i hsi
    simp only [List.set_cons_succ, List.set_cons_zero, Nat.reduceAdd]
    apply RegT.T_const rfl rfl rfl (.bool true) (fun _ _ h => h)
    · intro W hR hf
      have Hc := Lib.hid (HN.out.my W ci (HQ.out W hR).p)
      clear hR hf
      go_simp
      exact RegT.OpOK_enter Hc.out (fun e w' h => ⟨_, h.1, rfl, h.2⟩)
    simp only [List.set_cons_succ, List.set_cons_zero, Nat.reduceAdd]
    apply RegT.T_pure rfl rfl rfl
    · exact fun W hR => load_rr (.tmp 2) rfl rfl (HQ.out W hR).t.r hsr
    simp only [List.set_cons_succ, List.set_cons_zero, Nat.reduceAdd]
    apply RegT.T_const rfl rfl rfl (.bool true) (fun _ _ h => h)
    · intro W hR hf
      have Hc := Lib.hid (HN.out.rm W (HQ.out W hR).t.keeps)
      clear hR hf
      go_simp
      exact RegT.OpOK_enter Hc.out (fun e w' h => ⟨_, h.1, rfl, h.2⟩)
    simp only [List.set_cons_succ, List.set_cons_zero, Nat.reduceAdd]
    apply RegT.T_pure (v := .bool false) rfl rfl rfl
    · intro W hR; clear hR; go_simp
    simp only [List.set_cons_succ, List.set_cons_zero, Nat.reduceAdd]
    apply RegT.T_pure (v := .bool false) rfl rfl rfl
    · intro W hR; clear hR; go_simp
    simp only [List.set_cons_succ, List.set_cons_zero, Nat.reduceAdd]
    apply RegT.T_pure rfl rfl rfl
    · exact fun W hR => load_rr (.tmp 2) rfl rfl (HQ.out W hR).t.r hsr
    simp only [List.set_cons_succ, List.set_cons_zero, Nat.reduceAdd]
    apply RegT.T_pure rfl rfl rfl
    · exact fun W hR => load_rr (.tmp 3) rfl rfl (HQ.out W hR).t.s hss
    simp only [List.set_cons_succ, List.set_cons_zero, Nat.reduceAdd]
    apply RegT.T_const rfl rfl rfl (.bool false) (fun _ _ h => h)
    · intro W hR hf
      have Hc := Lib.hid (HN.out.sm W (HQ.out W hR).t.keeps)
      clear hR hf
      go_simp
      exact RegT.OpOK_enter Hc.out (fun e w' h => ⟨_, h.1, rfl, h.2⟩)
    simp only [List.set_cons_succ, List.set_cons_zero, Nat.reduceAdd]
    apply RegT.T_pure rfl rfl rfl
    · exact fun W hR => load_rr (.tmp 2) rfl rfl (HQ.out W hR).t.r hsr
    simp only [List.set_cons_succ, List.set_cons_zero, Nat.reduceAdd]
    apply RegT.T_pure rfl rfl rfl
    · exact fun W hR => load_rr (.tmp 3) rfl rfl (HQ.out W hR).t.s hss
    simp only [List.set_cons_succ, List.set_cons_zero, Nat.reduceAdd]
    apply RegT.T_const rfl rfl rfl (.bool false) (fun _ _ h => h)
    · intro W hR hf
      have Hc := Lib.hid (HN.out.rs W (HQ.out W hR).t.keeps)
      clear hR hf
      go_simp
      exact RegT.OpOK_enter Hc.out (fun e w' h => ⟨_, h.1, rfl, h.2⟩)
    simp only [List.set_cons_succ, List.set_cons_zero, Nat.reduceAdd]
    apply RegT.T_pure (v := .bool false) rfl rfl rfl
    · intro W hR; clear hR; go_simp
    simp only [List.set_cons_succ, List.set_cons_zero, Nat.reduceAdd]
    apply RegT.T_pure (v := .bool false) rfl rfl rfl
    · intro W hR; clear hR; go_simp
    simp only [List.set_cons_succ, List.set_cons_zero, Nat.reduceAdd]
    apply RegT.T_pure (v := .bool false) rfl rfl rfl
    · intro W hR; clear hR; go_simp
    simp only [List.set_cons_succ, List.set_cons_zero, Nat.reduceAdd]
    apply RegT.T_pure rfl rfl rfl
    · exact fun W hR => load_rr (.tmp 5) rfl rfl (HQ.out W hR).i hsi
    simp only [List.set_cons_succ, List.set_cons_zero, Nat.reduceAdd]
    apply RegT.T_pure rfl rfl rfl
    · exact fun W hR => load_rr (.tmp 2) rfl rfl (HQ.out W hR).t.r hsr
    simp only [List.set_cons_succ, List.set_cons_zero, Nat.reduceAdd]
    apply RegT.T_const rfl rfl rfl (.bool true) (fun _ _ h => h)
    · intro W hR hf
      have Hc := Lib.hid (HN.out.sy W ci (HQ.out W hR).t.keeps (HQ.out W hR).p)
      clear hR hf
      go_simp
      exact RegT.OpOK_enter Hc.out (fun e w' h => ⟨_, h.1, rfl, h.2⟩)
    simp only [List.set_cons_succ, List.set_cons_zero, Nat.reduceAdd]
    apply RegT.T_pure (v := .bool false) rfl rfl rfl
    · intro W hR; clear hR; go_simp
    simp only [List.set_cons_succ, List.set_cons_zero, Nat.reduceAdd]
    apply RegT.T_pure (v := .bool false) rfl rfl rfl
    · intro W hR; clear hR; go_simp
    simp only [List.set_cons_succ, List.set_cons_zero, Nat.reduceAdd]
    apply RegT.T_pure (v := .bool false) rfl rfl rfl
    · intro W hR; clear hR; go_simp
    simp only [List.set_cons_succ, List.set_cons_zero, Nat.reduceAdd]
    apply RegT.T_pure rfl rfl rfl
    · exact fun W hR => load_rr (.tmp 5) rfl rfl (HQ.out W hR).i hsi
    simp only [List.set_cons_succ, List.set_cons_zero, Nat.reduceAdd]
    apply RegT.T_pure rfl rfl rfl
    · exact fun W hR => load_rr (.tmp 2) rfl rfl (HQ.out W hR).t.r hsr
    simp only [List.set_cons_succ, List.set_cons_zero, Nat.reduceAdd]
    apply RegT.T_const rfl rfl rfl (.bool true) (fun _ _ h => h)
    · intro W hR hf
      have Hc := Lib.hid (HN.out.ry W ci (HQ.out W hR).t.keeps (HQ.out W hR).p)
      clear hR hf
      go_simp
      exact RegT.OpOK_enter Hc.out (fun e w' h => ⟨_, h.1, rfl, h.2⟩)
    simp only [List.set_cons_succ, List.set_cons_zero, Nat.reduceAdd]
    apply RegT.T_pure (v := .bool false) rfl rfl rfl
    · intro W hR; clear hR; go_simp
    simp only [List.set_cons_succ, List.set_cons_zero, Nat.reduceAdd]
    apply RegT.T_pure (v := .bool false) rfl rfl rfl
    · intro W hR; clear hR; go_simp
    simp only [List.set_cons_succ, List.set_cons_zero, Nat.reduceAdd]
    refine RegT.T_end rfl (fun W5 hR hf => ?_)
    have HF := Lib.hid (HQ.out W5 hR)
    have HR5 := Lib.hid (HR.out.keeps ((Keeps.refl _).drew.trans (Below.keeps hR)))
    clear hR hf HQ HR
    go_upto_region 10 with (first
      | (refine wpList_load_rr rfl (.tmp 2) rfl rfl HF.out.t.r hsr ?_)
      | (go_at_call 15; (with_reducible refine (HN.out.rm _ HF.out.t.keeps).mono ?_); rintro r w6 ⟨rfl, hB⟩; have HF := Lib.hid (HF.out.keep hB); have HR6 := Lib.hid (HR5.out.keeps (Below.keeps hB)); clear hB)
      | (go_at_call 17; (with_reducible refine (HN.out.rd rfl _ _ HR6.out).mono ?_); rintro r w7 ⟨⟨ct, rfl, hp⟩, hB⟩; have HF := Lib.hid (HF.out.keep hB); have HR7 := Lib.hid (HR6.out.keeps (Below.keeps hB)); have HP7 := Lib.hid hp; have hst := hp.size; have HO7 := Lib.hid hp.one; clear hB hp)
      | (refine wpList_alloc_zero rfl 36 rfl _ hz ?_)
      | (refine wpList_store_rowTo rfl 36 (.tmp 8) (.tmp 66) rfl rfl _ ct rfl rfl 36 zc (heap_alloc_new w7 _) (show _ = some ct.size by rw [hst]; kernel_rfl) (by rw [hst, hzs]) HO7.out ?_))
    rw [alloc_setRow]
    obtain ⟨W8, hW8⟩ : ∃ W8, w7.alloc (.cells ct 36) = W8 := ⟨_, rfl⟩
    have HD := Lib.hid (show Th w W8 x cr cs ct w7.heap.size from by rw [← hW8]; exact Th.new HF.out.t HP7.out)
    have HR8 := Lib.hid (show RdB W8 (.slice p4 n4 c4) F from by rw [← hW8]; exact HR7.out.keeps ((Keeps.refl w7).alloc _))
    rw [hW8]
    clear hW8 HR5 HR6 HR7
    obtain ⟨J, hJ⟩ : ∃ J, w7.heap.size = J := ⟨_, rfl⟩
    rw [hJ] at HD
    rw [hJ]
    clear hJ
    have HQ := Lib.hid (fun (W : World) (hR : RegT.Grow W8.drew W) => And.intro (HD.out.keep ((Below.refl _ _).drew.trans hR)) (HR8.out.keeps ((Keeps.refl _).drew.trans (Below.keeps hR))))
    apply RegT.wp_region_T rfl 90 23 rfl (by kernel_rfl) RegT.Grow RegT.Grow.refl RegT.Grow.trans
    · apply RegT.T_pure rfl rfl rfl
      · intro W hR; clear hR; go_simp; rfl
      simp only [List.set_cons_succ, List.set_cons_zero, Nat.reduceAdd]
      apply RegT.T_pure (v := .bool true) rfl rfl rfl
      · intro W hR; clear hR; go_simp
      simp only [List.set_cons_succ, List.set_cons_zero, Nat.reduceAdd]
      apply RegT.T_pure (v := .bool true) rfl rfl rfl
      · intro W hR; clear hR; go_simp
      simp only [List.set_cons_succ, List.set_cons_zero, Nat.reduceAdd]
      apply RegT.T_pure rfl rfl rfl
      · intro W hR; clear hR; go_simp; rfl
      simp only [List.set_cons_succ, List.set_cons_zero, Nat.reduceAdd]
      apply RegT.T_pure (v := .bool true) rfl rfl rfl
      · intro W hR; clear hR; go_simp
      simp only [List.set_cons_succ, List.set_cons_zero, Nat.reduceAdd]
      apply RegT.T_pure (v := .bool true) rfl rfl rfl
      · intro W hR; clear hR; go_simp
      simp only [List.set_cons_succ, List.set_cons_zero, Nat.reduceAdd]
      apply RegT.T_pure (v := .bool true) rfl rfl rfl
      · intro W hR; clear hR; go_simp
      simp only [List.set_cons_succ, List.set_cons_zero, Nat.reduceAdd]
      apply RegT.T_pure rfl rfl rfl
      · exact fun W hR => load_rr (.tmp 8) rfl rfl (HQ.out W hR).1.i hst
      simp only [List.set_cons_succ, List.set_cons_zero, Nat.reduceAdd]
      apply RegT.T_pure rfl rfl rfl
      · exact fun W hR => load_rr (.tmp 2) rfl rfl (HQ.out W hR).1.t.r hsr
      simp only [List.set_cons_succ, List.set_cons_zero, Nat.reduceAdd]
      apply RegT.T_const rfl rfl rfl (.bool true) (fun _ _ h => h)
      · intro W hR hf
        have Hc := Lib.hid (HN.out.ry W ct (HQ.out W hR).1.t.keeps (HQ.out W hR).1.p)
        clear hR hf
        go_simp
        exact RegT.OpOK_enter Hc.out (fun e w' h => ⟨_, h.1, rfl, h.2⟩)
      simp only [List.set_cons_succ, List.set_cons_zero, Nat.reduceAdd]
      apply RegT.T_pure (v := .bool true) rfl rfl rfl
      · intro W hR; clear hR; go_simp
      simp only [List.set_cons_succ, List.set_cons_zero, Nat.reduceAdd]
      apply RegT.T_pure (v := .bool true) rfl rfl rfl
      · intro W hR; clear hR; go_simp
      simp only [List.set_cons_succ, List.set_cons_zero, Nat.reduceAdd]
      apply RegT.T_pure rfl rfl rfl
      · intro W hR; clear hR; go_simp; rfl
      simp only [List.set_cons_succ, List.set_cons_zero, Nat.reduceAdd]
      apply RegT.T_pure (v := .string ⟨F.toArray⟩) rfl rfl rfl
      · intro W hR
        have hc := run_convert_str (P := Try.prog) (HQ.out W hR).2 39 5 9 Try.underlying39 Try.underlying5 Try.underlying9
        clear hR
        go_simp
      simp only [List.set_cons_succ, List.set_cons_zero, Nat.reduceAdd]
      apply RegT.T_pure rfl rfl rfl
      · exact fun W hR => load_rr (.tmp 2) rfl rfl (HQ.out W hR).1.t.r hsr
      simp only [List.set_cons_succ, List.set_cons_zero, Nat.reduceAdd]
      apply RegT.T_predC rfl rfl rfl 16 (fun v w => RdB w v F) (fun _ _ h => h) (fun v x y hR h => RdB.keeps h hR.block)
      · intro W hR hf
        have Hc := Lib.hid (HN.out.rf rfl W (HQ.out W hR).1.t.keeps)
        clear hR hf
        go_simp
        exact RegT.OpOK_enter Hc.out (fun e w' ⟨p, k, c, he, hk, ho, hB⟩ => ⟨_, he, ho.rd, hB⟩)
      intro v15
      simp only [List.set_cons_succ, List.set_cons_zero, Nat.reduceAdd]
      apply RegT.T_const rfl rfl rfl (.string ⟨F.toArray⟩) (fun _ _ h => h)
      · intro W hR hf
        have hb := hf _ (.head _) (by kernel_rfl) (.inr rfl)
        have hc := run_convert_str (P := Try.prog) hb 39 5 9 Try.underlying39 Try.underlying5 Try.underlying9
        clear hR hf hb
        go_simp
        exact RegT.OpOK_value ⟨rfl, Below.refl _ _⟩
      simp only [List.set_cons_succ, List.set_cons_zero, Nat.reduceAdd]
      apply RegT.T_pure (v := .bool true) rfl rfl rfl
      · intro W hR; clear hR; go_simp
      simp only [List.set_cons_succ, List.set_cons_zero, Nat.reduceAdd]
      apply RegT.T_pure (v := .bool true) rfl rfl rfl
      · intro W hR; clear hR; go_simp
      simp only [List.set_cons_succ, List.set_cons_zero, Nat.reduceAdd]
      apply RegT.T_pure (v := .bool true) rfl rfl rfl
      · intro W hR; clear hR; go_simp
      simp only [List.set_cons_succ, List.set_cons_zero, Nat.reduceAdd]
      apply RegT.T_const rfl rfl rfl (.bool true) (fun _ _ h => h)
      · intro W hR hf
        have Hc := Lib.hid (known9_w W)
        clear hR hf
        go_simp
        exact RegT.OpOK_enter Hc.out (fun e w' h => ⟨_, h.1, rfl, h.2⟩)
      simp only [List.set_cons_succ, List.set_cons_zero, Nat.reduceAdd]
      apply RegT.T_pure (v := .bool true) rfl rfl rfl
      · intro W hR; clear hR; go_simp
      simp only [List.set_cons_succ, List.set_cons_zero, Nat.reduceAdd]
      apply RegT.T_pure rfl rfl rfl
      · intro W hR; clear hR; go_simp; rfl
      simp only [List.set_cons_succ, List.set_cons_zero, Nat.reduceAdd]
      refine RegT.T_end rfl (fun W9 hR hf => ?_)
      have HB9 := Lib.hid (HQ.out W9 hR).1.t.below
      clear hR hf HQ
      go_wp2
      go_ret
      exact ⟨rfl, HB9.out⟩
    · rfl
    · kernel_rfl
  · rfl
  · kernel_rfl
end Go.Proofs.Ytoflehlkacofjaa
