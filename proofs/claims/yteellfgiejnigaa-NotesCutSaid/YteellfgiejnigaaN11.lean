/- The walk of the law NotesSame. -/
import Derived.Test.YteellfgiejnigaaU3
namespace Go.Proofs.Yteellfgiejnigaa
open Go.ChangeShapes Go.WideShapes Go.ChangeAt Go.RowKit
set_option linter.unusedVariables false

/-- A note's cells lie in a block. -/
def NcAt (w : World) (B : Nat) (cs : Array Value) : Prop := w.heap[B]? = some (.cells cs 31)
theorem NcAt.new (w : World) (cs : Array Value) : NcAt (w.alloc (.cells cs 31)) w.heap.size cs := heap_alloc_new w _
theorem NcAt.lt {w : World} {B : Nat} {cs : Array Value} (h : NcAt w B cs) : B < w.heap.size := (Array.getElem?_eq_some_iff.1 h).1
theorem NcAt.keeps {w w' : World} {B : Nat} {cs : Array Value} (h : NcAt w B cs) (hk : Keeps w w') : NcAt w' B cs := by unfold NcAt; rw [hk B h.lt]; exact h
theorem load_nc {o : Oper} {e : Operand → Value} {W : World} {N : Nat} {cs : Array Value} (x : Operand) (ho : o.op = .load 31 x) (hx : e x = .pointer (some ⟨N, 0, none⟩)) (h : NcAt W N cs) (hs : cs.size = 9) :
    (execOp e o).run Try.prog W = .ok (.value (.agg cs)) W := by
  have hl := run_loadVar_row (P := Try.prog) W N 31 31 cs (0, 0) _ h Try.underlying31 rfl (show _ = some cs.size by rw [hs]; kernel_rfl)
  unfold execOp
  simp only [ho, hx, Instr.loadAt, Instr.sureAddr, Sem.run_bind, Sem.run_pure, Result.andThen_ok, hl]
theorem wpList_load_nc {ops : Array Oper} {rest : List Oper} {o : Oper} {a : Act} {w : World} {Q : Exit → Act → World → Prop} {B : Nat} {cs : Array Value} (hw : Region.wanted o (yielded ops a.tmps) = true) (x : Operand) (ho : o.op = .load 31 x)
    (hx : a.eval x = .pointer (some ⟨B, 0, none⟩)) (h : NcAt w B cs) (hs : cs.size = 9) (k : wpList Try.prog ops Q rest (a.put o.dst (.agg cs)) w) : wpList Try.prog ops Q (o :: rest) a w := by
  unfold wpList
  rw [if_pos hw]
  exact .inl (wp_load_row 31 x ho B hx 31 cs (0, 0) _ h Try.underlying31 rfl (show _ = some cs.size by rw [hs]; kernel_rfl) k)

/-- What the callees do, each at every world that keeps the first one. -/
structure NsCalls (w : World) (cx cz : Array Value) (Lx Lz sm : Bool) (fx fz : Int) (bx bz : List UInt8) : Prop where
  lx : ∀ W, Keeps w W → Calls Try.prog 16 #[.agg cx] W fun r w' => r = .returned (.bool Lx) ∧ Below W.heap.size W w'
  lz : ∀ W, Keeps w W → Calls Try.prog 16 #[.agg cz] W fun r w' => r = .returned (.bool Lz) ∧ Below W.heap.size W w'
  bx : Lx = false → Lz = false → ∀ W, Keeps w W → Calls Try.prog 18 #[.agg cx] W fun r w' => (∃ p n c, r = .returned (.tuple #[.slice p n c, .int .i64 fx]) ∧ RdB w' (.slice p n c) bx) ∧ Below W.heap.size W w'
  bz : Lx = false → Lz = false → ∀ W, Keeps w W → Calls Try.prog 18 #[.agg cz] W fun r w' => (∃ p n c, r = .returned (.tuple #[.slice p n c, .int .i64 fz]) ∧ RdB w' (.slice p n c) bz) ∧ Below W.heap.size W w'
  s1 : Lx = false → Lz = false → ∀ W, Keeps w W → Calls Try.prog 19 #[.agg cx, .agg cz] W fun r w' => r = .returned (.bool sm) ∧ Below W.heap.size W w'
  s2 : Lx = false → Lz = false → ∀ W, Keeps w W → Calls Try.prog 20 #[.agg cx, .agg cz] W fun r w' => r = .returned (.bool sm) ∧ Below W.heap.size W w'
  s3 : Lx = false → Lz = false → ∀ W, Keeps w W → Calls Try.prog 19 #[.agg cz, .agg cx] W fun r w' => r = .returned (.bool sm) ∧ Below W.heap.size W w'
  hx : cx.size = 9
  hz : cz.size = 9

set_option maxRecDepth 100000 in
set_option maxHeartbeats 3200000 in
theorem nsameA_w (w : World) (cx cz : Array Value) (lz sm : Bool) (fx fz : Int) (bx bz : List UInt8) (h : NsCalls w cx cz true lz sm fx fz bx bz) : Calls Try.prog 4 #[.agg cx, .agg cz] w fun r w' => r = .returned (.bool true) ∧ Below w.heap.size w w' := by
  have hn1 : NcAt ((w.alloc (.cells cx 31)).alloc (.cells cz 31)) w.heap.size cx := (NcAt.new w cx).keeps ((Below.refl _ _).alloc (Nat.le_refl _) _).block
  have hn2 : NcAt ((w.alloc (.cells cx 31)).alloc (.cells cz 31)) (w.heap.size + 1) cz := by have := NcAt.new (w.alloc (.cells cx 31)) cz; rwa [show (w.alloc (.cells cx 31)).heap.size = w.heap.size + 1 by simp] at this
  have hn3 : Below w.heap.size w ((w.alloc (.cells cx 31)).alloc (.cells cz 31)) := ((Below.refl w.heap.size w).alloc (Nat.le_refl _) (.cells cx 31)).alloc (by simp) (.cells cz 31)
  have hn4 : Keeps w ((w.alloc (.cells cx 31)).alloc (.cells cz 31)) := hn3.block
  have HC := Lib.hid (And.intro hn1 (And.intro hn2 (And.intro hn4 hn3)))
  have HN := Lib.hid h
  clear hn1 hn2 hn3 hn4 h
  go_enter Try.func4, Try.ntmps4
  go_wp2_with (first
    | (refine wpList_load_nc rfl (.tmp 2) rfl rfl HC.out.1 HN.out.hx ?_)
    | (refine wpList_load_nc rfl (.tmp 3) rfl rfl HC.out.2.1 HN.out.hz ?_)
    | (go_at_call 16; (first | with_reducible refine (HN.out.lx _ HC.out.2.2.1).mono ?_); rintro r w1 ⟨rfl, hB⟩; have HC := Lib.hid (And.intro (HC.out.1.keeps hB.block) (And.intro (HC.out.2.1.keeps hB.block) (And.intro (HC.out.2.2.1.trans hB.block) (HC.out.2.2.2.trans (hB.mono HC.out.2.2.2.size))))); clear hB)
    | (go_at_call 17; (first | with_reducible refine (known23_w _).mono ?_); rintro r w1 ⟨rfl, hB⟩; have HC := Lib.hid (And.intro (HC.out.1.keeps hB.block) (And.intro (HC.out.2.1.keeps hB.block) (And.intro (HC.out.2.2.1.trans hB.block) (HC.out.2.2.2.trans (hB.mono HC.out.2.2.2.size))))); clear hB))
  go_ret
  exact ⟨rfl, HC.out.2.2.2⟩

set_option maxRecDepth 100000 in
set_option maxHeartbeats 3200000 in
theorem nsameB_w (w : World) (cx cz : Array Value) (lz sm : Bool) (fx fz : Int) (bx bz : List UInt8) (h : NsCalls w cx cz false true sm fx fz bx bz) : Calls Try.prog 4 #[.agg cx, .agg cz] w fun r w' => r = .returned (.bool true) ∧ Below w.heap.size w w' := by
  have hn1 : NcAt ((w.alloc (.cells cx 31)).alloc (.cells cz 31)) w.heap.size cx := (NcAt.new w cx).keeps ((Below.refl _ _).alloc (Nat.le_refl _) _).block
  have hn2 : NcAt ((w.alloc (.cells cx 31)).alloc (.cells cz 31)) (w.heap.size + 1) cz := by have := NcAt.new (w.alloc (.cells cx 31)) cz; rwa [show (w.alloc (.cells cx 31)).heap.size = w.heap.size + 1 by simp] at this
  have hn3 : Below w.heap.size w ((w.alloc (.cells cx 31)).alloc (.cells cz 31)) := ((Below.refl w.heap.size w).alloc (Nat.le_refl _) (.cells cx 31)).alloc (by simp) (.cells cz 31)
  have hn4 : Keeps w ((w.alloc (.cells cx 31)).alloc (.cells cz 31)) := hn3.block
  have HC := Lib.hid (And.intro hn1 (And.intro hn2 (And.intro hn4 hn3)))
  have HN := Lib.hid h
  clear hn1 hn2 hn3 hn4 h
  go_enter Try.func4, Try.ntmps4
  go_wp2_with (first
    | (refine wpList_load_nc rfl (.tmp 2) rfl rfl HC.out.1 HN.out.hx ?_)
    | (refine wpList_load_nc rfl (.tmp 3) rfl rfl HC.out.2.1 HN.out.hz ?_)
    | (go_at_call 16; (first | with_reducible refine (HN.out.lx _ HC.out.2.2.1).mono ?_ | with_reducible refine (HN.out.lz _ HC.out.2.2.1).mono ?_); rintro r w1 ⟨rfl, hB⟩; have HC := Lib.hid (And.intro (HC.out.1.keeps hB.block) (And.intro (HC.out.2.1.keeps hB.block) (And.intro (HC.out.2.2.1.trans hB.block) (HC.out.2.2.2.trans (hB.mono HC.out.2.2.2.size))))); clear hB)
    | (go_at_call 17; (first | with_reducible refine (known23_w _).mono ?_); rintro r w1 ⟨rfl, hB⟩; have HC := Lib.hid (And.intro (HC.out.1.keeps hB.block) (And.intro (HC.out.2.1.keeps hB.block) (And.intro (HC.out.2.2.1.trans hB.block) (HC.out.2.2.2.trans (hB.mono HC.out.2.2.2.size))))); clear hB))
  go_ret
  exact ⟨rfl, HC.out.2.2.2⟩

set_option maxRecDepth 100000 in
set_option maxHeartbeats 3200000 in
theorem nsameC_w (w : World) (cx cz : Array Value) (sm : Bool) (fz : Int) (bx bz : List UInt8) (h : NsCalls w cx cz false false sm 2 fz bx bz) : Calls Try.prog 4 #[.agg cx, .agg cz] w fun r w' => r = .returned (.bool true) ∧ Below w.heap.size w w' := by
  have hn1 : NcAt ((w.alloc (.cells cx 31)).alloc (.cells cz 31)) w.heap.size cx := (NcAt.new w cx).keeps ((Below.refl _ _).alloc (Nat.le_refl _) _).block
  have hn2 : NcAt ((w.alloc (.cells cx 31)).alloc (.cells cz 31)) (w.heap.size + 1) cz := by have := NcAt.new (w.alloc (.cells cx 31)) cz; rwa [show (w.alloc (.cells cx 31)).heap.size = w.heap.size + 1 by simp] at this
  have hn3 : Below w.heap.size w ((w.alloc (.cells cx 31)).alloc (.cells cz 31)) := ((Below.refl w.heap.size w).alloc (Nat.le_refl _) (.cells cx 31)).alloc (by simp) (.cells cz 31)
  have hn4 : Keeps w ((w.alloc (.cells cx 31)).alloc (.cells cz 31)) := hn3.block
  have HC := Lib.hid (And.intro hn1 (And.intro hn2 (And.intro hn4 hn3)))
  have HN := Lib.hid h
  clear hn1 hn2 hn3 hn4 h
  go_enter Try.func4, Try.ntmps4
  go_wp2_with (first
    | (refine wpList_load_nc rfl (.tmp 2) rfl rfl HC.out.1 HN.out.hx ?_)
    | (refine wpList_load_nc rfl (.tmp 3) rfl rfl HC.out.2.1 HN.out.hz ?_)
    | (go_at_call 16; (first | with_reducible refine (HN.out.lx _ HC.out.2.2.1).mono ?_ | with_reducible refine (HN.out.lz _ HC.out.2.2.1).mono ?_); rintro r w1 ⟨rfl, hB⟩; have HC := Lib.hid (And.intro (HC.out.1.keeps hB.block) (And.intro (HC.out.2.1.keeps hB.block) (And.intro (HC.out.2.2.1.trans hB.block) (HC.out.2.2.2.trans (hB.mono HC.out.2.2.2.size))))); clear hB)
    | (go_at_call 18; (with_reducible refine (HN.out.bx rfl rfl _ HC.out.2.2.1).mono ?_); rintro r w1 ⟨⟨p1, n1, c1, rfl, hr1⟩, hB⟩; have HR1 := Lib.hid hr1; have HC := Lib.hid (And.intro (HC.out.1.keeps hB.block) (And.intro (HC.out.2.1.keeps hB.block) (And.intro (HC.out.2.2.1.trans hB.block) (HC.out.2.2.2.trans (hB.mono HC.out.2.2.2.size))))); clear hr1; clear hB)
    | (go_at_call 18; (with_reducible refine (HN.out.bz rfl rfl _ HC.out.2.2.1).mono ?_); rintro r w2 ⟨⟨p2, n2, c2, rfl, hr2⟩, hB⟩; have HR1 := Lib.hid (HR1.out.keeps hB.block); have HR2 := Lib.hid hr2; have HC := Lib.hid (And.intro (HC.out.1.keeps hB.block) (And.intro (HC.out.2.1.keeps hB.block) (And.intro (HC.out.2.2.1.trans hB.block) (HC.out.2.2.2.trans (hB.mono HC.out.2.2.2.size))))); clear hr2; clear hB))
  have HX := Lib.hid (fun (W : World) (hR : RegT.Grow w2.drew W) => HC.out.1.keeps ((Keeps.refl w2).drew.trans hR.block))
  have HZ := Lib.hid (fun (W : World) (hR : RegT.Grow w2.drew W) => HC.out.2.1.keeps ((Keeps.refl w2).drew.trans hR.block))
  have HS1 := Lib.hid (fun (W : World) (hk : Keeps w2 W) => HN.out.s1 rfl rfl W (HC.out.2.2.1.trans hk))
  have HS2 := Lib.hid (fun (W : World) (hk : Keeps w2 W) => HN.out.s2 rfl rfl W (HC.out.2.2.1.trans hk))
  have HS3 := Lib.hid (fun (W : World) (hk : Keeps w2 W) => HN.out.s3 rfl rfl W (HC.out.2.2.1.trans hk))
  apply RegT.wp_region_T rfl 62 16 rfl (by kernel_rfl) RegT.Grow RegT.Grow.refl RegT.Grow.trans
  · apply RegT.T_pure rfl rfl rfl
    · exact fun W hR => load_nc (.tmp 2) rfl rfl (HX.out W hR) HN.out.hx
    simp only [List.set_cons_succ, List.set_cons_zero, Nat.reduceAdd]
    apply RegT.T_pure rfl rfl rfl
    · exact fun W hR => load_nc (.tmp 3) rfl rfl (HZ.out W hR) HN.out.hz
    simp only [List.set_cons_succ, List.set_cons_zero, Nat.reduceAdd]
    apply RegT.T_const rfl rfl rfl (.bool sm) (fun _ _ h => h)
    · intro W hR hf
      have Hc := Lib.hid (HS1.out W ((Keeps.refl w2).drew.trans hR.block))
      clear hR hf
      go_simp
      exact RegT.OpOK_enter Hc.out (fun e w' h => ⟨_, h.1, rfl, h.2⟩)
    simp only [List.set_cons_succ, List.set_cons_zero, Nat.reduceAdd]
    apply RegT.T_pure rfl rfl rfl
    · exact fun W hR => load_nc (.tmp 2) rfl rfl (HX.out W hR) HN.out.hx
    simp only [List.set_cons_succ, List.set_cons_zero, Nat.reduceAdd]
    apply RegT.T_pure rfl rfl rfl
    · exact fun W hR => load_nc (.tmp 3) rfl rfl (HZ.out W hR) HN.out.hz
    simp only [List.set_cons_succ, List.set_cons_zero, Nat.reduceAdd]
    apply RegT.T_const rfl rfl rfl (.bool sm) (fun _ _ h => h)
    · intro W hR hf
      have Hc := Lib.hid (HS2.out W ((Keeps.refl w2).drew.trans hR.block))
      clear hR hf
      go_simp
      exact RegT.OpOK_enter Hc.out (fun e w' h => ⟨_, h.1, rfl, h.2⟩)
    simp only [List.set_cons_succ, List.set_cons_zero, Nat.reduceAdd]
    apply RegT.T_pure (v := .bool false) rfl rfl rfl
    · intro W hR; clear hR; go_simp
    simp only [List.set_cons_succ, List.set_cons_zero, Nat.reduceAdd]
    apply RegT.T_pure (v := .bool false) rfl rfl rfl
    · intro W hR; clear hR; go_simp
    simp only [List.set_cons_succ, List.set_cons_zero, Nat.reduceAdd]
    apply RegT.T_pure rfl rfl rfl
    · exact fun W hR => load_nc (.tmp 3) rfl rfl (HZ.out W hR) HN.out.hz
    simp only [List.set_cons_succ, List.set_cons_zero, Nat.reduceAdd]
    apply RegT.T_pure rfl rfl rfl
    · exact fun W hR => load_nc (.tmp 2) rfl rfl (HX.out W hR) HN.out.hx
    simp only [List.set_cons_succ, List.set_cons_zero, Nat.reduceAdd]
    apply RegT.T_const rfl rfl rfl (.bool sm) (fun _ _ h => h)
    · intro W hR hf
      have Hc := Lib.hid (HS3.out W ((Keeps.refl w2).drew.trans hR.block))
      clear hR hf
      go_simp
      exact RegT.OpOK_enter Hc.out (fun e w' h => ⟨_, h.1, rfl, h.2⟩)
    simp only [List.set_cons_succ, List.set_cons_zero, Nat.reduceAdd]
    apply RegT.T_pure rfl rfl rfl
    · exact fun W hR => load_nc (.tmp 2) rfl rfl (HX.out W hR) HN.out.hx
    simp only [List.set_cons_succ, List.set_cons_zero, Nat.reduceAdd]
    apply RegT.T_pure rfl rfl rfl
    · exact fun W hR => load_nc (.tmp 3) rfl rfl (HZ.out W hR) HN.out.hz
    simp only [List.set_cons_succ, List.set_cons_zero, Nat.reduceAdd]
    apply RegT.T_const rfl rfl rfl (.bool sm) (fun _ _ h => h)
    · intro W hR hf
      have Hc := Lib.hid (HS2.out W ((Keeps.refl w2).drew.trans hR.block))
      clear hR hf
      go_simp
      exact RegT.OpOK_enter Hc.out (fun e w' h => ⟨_, h.1, rfl, h.2⟩)
    simp only [List.set_cons_succ, List.set_cons_zero, Nat.reduceAdd]
    apply RegT.T_pure (v := .bool false) rfl rfl rfl
    · intro W hR; clear hR; go_simp
    simp only [List.set_cons_succ, List.set_cons_zero, Nat.reduceAdd]
    apply RegT.T_pure (v := .bool false) rfl rfl rfl
    · intro W hR; clear hR; go_simp
    simp only [List.set_cons_succ, List.set_cons_zero, Nat.reduceAdd]
    refine RegT.T_end rfl (fun W5 hR hf => ?_)
    have hB : Below w2.heap.size w2 W5 := (Below.refl w2.heap.size w2).drew.trans hR
    have HR1 := Lib.hid (HR1.out.keeps hB.block)
    have HR2 := Lib.hid (HR2.out.keeps hB.block)
    have HC := Lib.hid (And.intro (HC.out.1.keeps hB.block) (And.intro (HC.out.2.1.keeps hB.block) (And.intro (HC.out.2.2.1.trans hB.block) (HC.out.2.2.2.trans (hB.mono HC.out.2.2.2.size)))))
    clear hR hf hB HX HZ HS1 HS2 HS3
    go_wp2
    have HX := Lib.hid (fun (W : World) (hR : RegT.Grow W5.drew W) => HC.out.1.keeps ((Keeps.refl W5).drew.trans hR.block))
    have HZ := Lib.hid (fun (W : World) (hR : RegT.Grow W5.drew W) => HC.out.2.1.keeps ((Keeps.refl W5).drew.trans hR.block))
    have HS1 := Lib.hid (fun (W : World) (hk : Keeps W5 W) => HN.out.s1 rfl rfl W (HC.out.2.2.1.trans hk))
    have HS2 := Lib.hid (fun (W : World) (hk : Keeps W5 W) => HN.out.s2 rfl rfl W (HC.out.2.2.1.trans hk))
    have HS3 := Lib.hid (fun (W : World) (hk : Keeps W5 W) => HN.out.s3 rfl rfl W (HC.out.2.2.1.trans hk))
    apply RegT.wp_region_T rfl 62 21 rfl (by kernel_rfl) RegT.Grow RegT.Grow.refl RegT.Grow.trans
    · apply RegT.T_pure (v := .int .i64 2) rfl rfl rfl
      · intro W hR; clear hR; go_simp
      simp only [List.set_cons_succ, List.set_cons_zero, Nat.reduceAdd]
      apply RegT.T_pure (v := .bool true) rfl rfl rfl
      · intro W hR; clear hR; go_simp
      simp only [List.set_cons_succ, List.set_cons_zero, Nat.reduceAdd]
      apply RegT.T_pure (v := .bool true) rfl rfl rfl
      · intro W hR; clear hR; go_simp
      simp only [List.set_cons_succ, List.set_cons_zero, Nat.reduceAdd]
      apply RegT.T_skip rfl rfl rfl
      simp only [List.set_cons_succ, List.set_cons_zero, Nat.reduceAdd]
      apply RegT.T_skip rfl rfl rfl
      simp only [List.set_cons_succ, List.set_cons_zero, Nat.reduceAdd]
      apply RegT.T_pure (v := .bool true) rfl rfl rfl
      · intro W hR; clear hR; go_simp
      simp only [List.set_cons_succ, List.set_cons_zero, Nat.reduceAdd]
      apply RegT.T_pure (v := .bool true) rfl rfl rfl
      · intro W hR; clear hR; go_simp
      simp only [List.set_cons_succ, List.set_cons_zero, Nat.reduceAdd]
      apply RegT.T_skip rfl rfl rfl
      simp only [List.set_cons_succ, List.set_cons_zero, Nat.reduceAdd]
      apply RegT.T_skip rfl rfl rfl
      simp only [List.set_cons_succ, List.set_cons_zero, Nat.reduceAdd]
      apply RegT.T_skip rfl rfl rfl
      simp only [List.set_cons_succ, List.set_cons_zero, Nat.reduceAdd]
      apply RegT.T_skip rfl rfl rfl
      simp only [List.set_cons_succ, List.set_cons_zero, Nat.reduceAdd]
      apply RegT.T_skip rfl rfl rfl
      simp only [List.set_cons_succ, List.set_cons_zero, Nat.reduceAdd]
      apply RegT.T_skip rfl rfl rfl
      simp only [List.set_cons_succ, List.set_cons_zero, Nat.reduceAdd]
      apply RegT.T_skip rfl rfl rfl
      simp only [List.set_cons_succ, List.set_cons_zero, Nat.reduceAdd]
      apply RegT.T_skip rfl rfl rfl
      simp only [List.set_cons_succ, List.set_cons_zero, Nat.reduceAdd]
      apply RegT.T_skip rfl rfl rfl
      simp only [List.set_cons_succ, List.set_cons_zero, Nat.reduceAdd]
      apply RegT.T_pure (v := .bool true) rfl rfl rfl
      · intro W hR; clear hR; go_simp
      simp only [List.set_cons_succ, List.set_cons_zero, Nat.reduceAdd]
      apply RegT.T_pure (v := .bool true) rfl rfl rfl
      · intro W hR; clear hR; go_simp
      simp only [List.set_cons_succ, List.set_cons_zero, Nat.reduceAdd]
      apply RegT.T_const rfl rfl rfl (.bool true) (fun _ _ h => h)
      · intro W hR hf
        have Hc := Lib.hid (known23_w W)
        clear hR hf
        go_simp
        exact RegT.OpOK_enter Hc.out (fun e w' h => ⟨_, h.1, rfl, h.2⟩)
      simp only [List.set_cons_succ, List.set_cons_zero, Nat.reduceAdd]
      apply RegT.T_pure (v := .bool true) rfl rfl rfl
      · intro W hR; clear hR; go_simp
      simp only [List.set_cons_succ, List.set_cons_zero, Nat.reduceAdd]
      apply RegT.T_pure (v := .bool true) rfl rfl rfl
      · intro W hR; clear hR; go_simp
      simp only [List.set_cons_succ, List.set_cons_zero, Nat.reduceAdd]
      refine RegT.T_end rfl (fun W7 hR hf => ?_)
      have hB7 : Below w.heap.size w W7 := HC.out.2.2.2.trans (((Below.refl W5.heap.size W5).drew.trans hR).mono HC.out.2.2.2.size)
      have HB7 := Lib.hid hB7
      clear hR hf hB7
      go_wp2
      go_ret
      exact ⟨rfl, HB7.out⟩
    · rfl
    · kernel_rfl
  · rfl
  · kernel_rfl

set_option maxRecDepth 100000 in
set_option maxHeartbeats 3200000 in
theorem nsameD_w (w : World) (cx cz : Array Value) (sm : Bool) (bx bz : List UInt8) (h : NsCalls w cx cz false false sm 0 2 bx bz) : Calls Try.prog 4 #[.agg cx, .agg cz] w fun r w' => r = .returned (.bool true) ∧ Below w.heap.size w w' := by
  have hn1 : NcAt ((w.alloc (.cells cx 31)).alloc (.cells cz 31)) w.heap.size cx := (NcAt.new w cx).keeps ((Below.refl _ _).alloc (Nat.le_refl _) _).block
  have hn2 : NcAt ((w.alloc (.cells cx 31)).alloc (.cells cz 31)) (w.heap.size + 1) cz := by have := NcAt.new (w.alloc (.cells cx 31)) cz; rwa [show (w.alloc (.cells cx 31)).heap.size = w.heap.size + 1 by simp] at this
  have hn3 : Below w.heap.size w ((w.alloc (.cells cx 31)).alloc (.cells cz 31)) := ((Below.refl w.heap.size w).alloc (Nat.le_refl _) (.cells cx 31)).alloc (by simp) (.cells cz 31)
  have hn4 : Keeps w ((w.alloc (.cells cx 31)).alloc (.cells cz 31)) := hn3.block
  have HC := Lib.hid (And.intro hn1 (And.intro hn2 (And.intro hn4 hn3)))
  have HN := Lib.hid h
  clear hn1 hn2 hn3 hn4 h
  go_enter Try.func4, Try.ntmps4
  go_wp2_with (first
    | (refine wpList_load_nc rfl (.tmp 2) rfl rfl HC.out.1 HN.out.hx ?_)
    | (refine wpList_load_nc rfl (.tmp 3) rfl rfl HC.out.2.1 HN.out.hz ?_)
    | (go_at_call 16; (first | with_reducible refine (HN.out.lx _ HC.out.2.2.1).mono ?_ | with_reducible refine (HN.out.lz _ HC.out.2.2.1).mono ?_); rintro r w1 ⟨rfl, hB⟩; have HC := Lib.hid (And.intro (HC.out.1.keeps hB.block) (And.intro (HC.out.2.1.keeps hB.block) (And.intro (HC.out.2.2.1.trans hB.block) (HC.out.2.2.2.trans (hB.mono HC.out.2.2.2.size))))); clear hB)
    | (go_at_call 18; (with_reducible refine (HN.out.bx rfl rfl _ HC.out.2.2.1).mono ?_); rintro r w1 ⟨⟨p1, n1, c1, rfl, hr1⟩, hB⟩; have HR1 := Lib.hid hr1; have HC := Lib.hid (And.intro (HC.out.1.keeps hB.block) (And.intro (HC.out.2.1.keeps hB.block) (And.intro (HC.out.2.2.1.trans hB.block) (HC.out.2.2.2.trans (hB.mono HC.out.2.2.2.size))))); clear hr1; clear hB)
    | (go_at_call 18; (with_reducible refine (HN.out.bz rfl rfl _ HC.out.2.2.1).mono ?_); rintro r w2 ⟨⟨p2, n2, c2, rfl, hr2⟩, hB⟩; have HR1 := Lib.hid (HR1.out.keeps hB.block); have HR2 := Lib.hid hr2; have HC := Lib.hid (And.intro (HC.out.1.keeps hB.block) (And.intro (HC.out.2.1.keeps hB.block) (And.intro (HC.out.2.2.1.trans hB.block) (HC.out.2.2.2.trans (hB.mono HC.out.2.2.2.size))))); clear hr2; clear hB))
  have HX := Lib.hid (fun (W : World) (hR : RegT.Grow w2.drew W) => HC.out.1.keeps ((Keeps.refl w2).drew.trans hR.block))
  have HZ := Lib.hid (fun (W : World) (hR : RegT.Grow w2.drew W) => HC.out.2.1.keeps ((Keeps.refl w2).drew.trans hR.block))
  have HS1 := Lib.hid (fun (W : World) (hk : Keeps w2 W) => HN.out.s1 rfl rfl W (HC.out.2.2.1.trans hk))
  have HS2 := Lib.hid (fun (W : World) (hk : Keeps w2 W) => HN.out.s2 rfl rfl W (HC.out.2.2.1.trans hk))
  have HS3 := Lib.hid (fun (W : World) (hk : Keeps w2 W) => HN.out.s3 rfl rfl W (HC.out.2.2.1.trans hk))
  apply RegT.wp_region_T rfl 62 16 rfl (by kernel_rfl) RegT.Grow RegT.Grow.refl RegT.Grow.trans
  · apply RegT.T_pure rfl rfl rfl
    · exact fun W hR => load_nc (.tmp 2) rfl rfl (HX.out W hR) HN.out.hx
    simp only [List.set_cons_succ, List.set_cons_zero, Nat.reduceAdd]
    apply RegT.T_pure rfl rfl rfl
    · exact fun W hR => load_nc (.tmp 3) rfl rfl (HZ.out W hR) HN.out.hz
    simp only [List.set_cons_succ, List.set_cons_zero, Nat.reduceAdd]
    apply RegT.T_const rfl rfl rfl (.bool sm) (fun _ _ h => h)
    · intro W hR hf
      have Hc := Lib.hid (HS1.out W ((Keeps.refl w2).drew.trans hR.block))
      clear hR hf
      go_simp
      exact RegT.OpOK_enter Hc.out (fun e w' h => ⟨_, h.1, rfl, h.2⟩)
    simp only [List.set_cons_succ, List.set_cons_zero, Nat.reduceAdd]
    apply RegT.T_pure rfl rfl rfl
    · exact fun W hR => load_nc (.tmp 2) rfl rfl (HX.out W hR) HN.out.hx
    simp only [List.set_cons_succ, List.set_cons_zero, Nat.reduceAdd]
    apply RegT.T_pure rfl rfl rfl
    · exact fun W hR => load_nc (.tmp 3) rfl rfl (HZ.out W hR) HN.out.hz
    simp only [List.set_cons_succ, List.set_cons_zero, Nat.reduceAdd]
    apply RegT.T_const rfl rfl rfl (.bool sm) (fun _ _ h => h)
    · intro W hR hf
      have Hc := Lib.hid (HS2.out W ((Keeps.refl w2).drew.trans hR.block))
      clear hR hf
      go_simp
      exact RegT.OpOK_enter Hc.out (fun e w' h => ⟨_, h.1, rfl, h.2⟩)
    simp only [List.set_cons_succ, List.set_cons_zero, Nat.reduceAdd]
    apply RegT.T_pure (v := .bool false) rfl rfl rfl
    · intro W hR; clear hR; go_simp
    simp only [List.set_cons_succ, List.set_cons_zero, Nat.reduceAdd]
    apply RegT.T_pure (v := .bool false) rfl rfl rfl
    · intro W hR; clear hR; go_simp
    simp only [List.set_cons_succ, List.set_cons_zero, Nat.reduceAdd]
    apply RegT.T_pure rfl rfl rfl
    · exact fun W hR => load_nc (.tmp 3) rfl rfl (HZ.out W hR) HN.out.hz
    simp only [List.set_cons_succ, List.set_cons_zero, Nat.reduceAdd]
    apply RegT.T_pure rfl rfl rfl
    · exact fun W hR => load_nc (.tmp 2) rfl rfl (HX.out W hR) HN.out.hx
    simp only [List.set_cons_succ, List.set_cons_zero, Nat.reduceAdd]
    apply RegT.T_const rfl rfl rfl (.bool sm) (fun _ _ h => h)
    · intro W hR hf
      have Hc := Lib.hid (HS3.out W ((Keeps.refl w2).drew.trans hR.block))
      clear hR hf
      go_simp
      exact RegT.OpOK_enter Hc.out (fun e w' h => ⟨_, h.1, rfl, h.2⟩)
    simp only [List.set_cons_succ, List.set_cons_zero, Nat.reduceAdd]
    apply RegT.T_pure rfl rfl rfl
    · exact fun W hR => load_nc (.tmp 2) rfl rfl (HX.out W hR) HN.out.hx
    simp only [List.set_cons_succ, List.set_cons_zero, Nat.reduceAdd]
    apply RegT.T_pure rfl rfl rfl
    · exact fun W hR => load_nc (.tmp 3) rfl rfl (HZ.out W hR) HN.out.hz
    simp only [List.set_cons_succ, List.set_cons_zero, Nat.reduceAdd]
    apply RegT.T_const rfl rfl rfl (.bool sm) (fun _ _ h => h)
    · intro W hR hf
      have Hc := Lib.hid (HS2.out W ((Keeps.refl w2).drew.trans hR.block))
      clear hR hf
      go_simp
      exact RegT.OpOK_enter Hc.out (fun e w' h => ⟨_, h.1, rfl, h.2⟩)
    simp only [List.set_cons_succ, List.set_cons_zero, Nat.reduceAdd]
    apply RegT.T_pure (v := .bool false) rfl rfl rfl
    · intro W hR; clear hR; go_simp
    simp only [List.set_cons_succ, List.set_cons_zero, Nat.reduceAdd]
    apply RegT.T_pure (v := .bool false) rfl rfl rfl
    · intro W hR; clear hR; go_simp
    simp only [List.set_cons_succ, List.set_cons_zero, Nat.reduceAdd]
    refine RegT.T_end rfl (fun W5 hR hf => ?_)
    have hB : Below w2.heap.size w2 W5 := (Below.refl w2.heap.size w2).drew.trans hR
    have HR1 := Lib.hid (HR1.out.keeps hB.block)
    have HR2 := Lib.hid (HR2.out.keeps hB.block)
    have HC := Lib.hid (And.intro (HC.out.1.keeps hB.block) (And.intro (HC.out.2.1.keeps hB.block) (And.intro (HC.out.2.2.1.trans hB.block) (HC.out.2.2.2.trans (hB.mono HC.out.2.2.2.size)))))
    clear hR hf hB HX HZ HS1 HS2 HS3
    go_wp2
    have HX := Lib.hid (fun (W : World) (hR : RegT.Grow W5.drew W) => HC.out.1.keeps ((Keeps.refl W5).drew.trans hR.block))
    have HZ := Lib.hid (fun (W : World) (hR : RegT.Grow W5.drew W) => HC.out.2.1.keeps ((Keeps.refl W5).drew.trans hR.block))
    have HS1 := Lib.hid (fun (W : World) (hk : Keeps W5 W) => HN.out.s1 rfl rfl W (HC.out.2.2.1.trans hk))
    have HS2 := Lib.hid (fun (W : World) (hk : Keeps W5 W) => HN.out.s2 rfl rfl W (HC.out.2.2.1.trans hk))
    have HS3 := Lib.hid (fun (W : World) (hk : Keeps W5 W) => HN.out.s3 rfl rfl W (HC.out.2.2.1.trans hk))
    apply RegT.wp_region_T rfl 62 21 rfl (by kernel_rfl) RegT.Grow RegT.Grow.refl RegT.Grow.trans
    · apply RegT.T_pure (v := .int .i64 0) rfl rfl rfl
      · intro W hR; clear hR; go_simp
      simp only [List.set_cons_succ, List.set_cons_zero, Nat.reduceAdd]
      apply RegT.T_pure (v := .bool false) rfl rfl rfl
      · intro W hR; clear hR; go_simp
      simp only [List.set_cons_succ, List.set_cons_zero, Nat.reduceAdd]
      apply RegT.T_pure (v := .bool false) rfl rfl rfl
      · intro W hR; clear hR; go_simp
      simp only [List.set_cons_succ, List.set_cons_zero, Nat.reduceAdd]
      apply RegT.T_pure (v := .int .i64 2) rfl rfl rfl
      · intro W hR; clear hR; go_simp
      simp only [List.set_cons_succ, List.set_cons_zero, Nat.reduceAdd]
      apply RegT.T_pure (v := .bool true) rfl rfl rfl
      · intro W hR; clear hR; go_simp
      simp only [List.set_cons_succ, List.set_cons_zero, Nat.reduceAdd]
      apply RegT.T_pure (v := .bool true) rfl rfl rfl
      · intro W hR; clear hR; go_simp
      simp only [List.set_cons_succ, List.set_cons_zero, Nat.reduceAdd]
      apply RegT.T_pure (v := .bool true) rfl rfl rfl
      · intro W hR; clear hR; go_simp
      simp only [List.set_cons_succ, List.set_cons_zero, Nat.reduceAdd]
      apply RegT.T_skip rfl rfl rfl
      simp only [List.set_cons_succ, List.set_cons_zero, Nat.reduceAdd]
      apply RegT.T_skip rfl rfl rfl
      simp only [List.set_cons_succ, List.set_cons_zero, Nat.reduceAdd]
      apply RegT.T_skip rfl rfl rfl
      simp only [List.set_cons_succ, List.set_cons_zero, Nat.reduceAdd]
      apply RegT.T_skip rfl rfl rfl
      simp only [List.set_cons_succ, List.set_cons_zero, Nat.reduceAdd]
      apply RegT.T_skip rfl rfl rfl
      simp only [List.set_cons_succ, List.set_cons_zero, Nat.reduceAdd]
      apply RegT.T_skip rfl rfl rfl
      simp only [List.set_cons_succ, List.set_cons_zero, Nat.reduceAdd]
      apply RegT.T_skip rfl rfl rfl
      simp only [List.set_cons_succ, List.set_cons_zero, Nat.reduceAdd]
      apply RegT.T_skip rfl rfl rfl
      simp only [List.set_cons_succ, List.set_cons_zero, Nat.reduceAdd]
      apply RegT.T_skip rfl rfl rfl
      simp only [List.set_cons_succ, List.set_cons_zero, Nat.reduceAdd]
      apply RegT.T_pure (v := .bool true) rfl rfl rfl
      · intro W hR; clear hR; go_simp
      simp only [List.set_cons_succ, List.set_cons_zero, Nat.reduceAdd]
      apply RegT.T_pure (v := .bool true) rfl rfl rfl
      · intro W hR; clear hR; go_simp
      simp only [List.set_cons_succ, List.set_cons_zero, Nat.reduceAdd]
      apply RegT.T_const rfl rfl rfl (.bool true) (fun _ _ h => h)
      · intro W hR hf
        have Hc := Lib.hid (known23_w W)
        clear hR hf
        go_simp
        exact RegT.OpOK_enter Hc.out (fun e w' h => ⟨_, h.1, rfl, h.2⟩)
      simp only [List.set_cons_succ, List.set_cons_zero, Nat.reduceAdd]
      apply RegT.T_pure (v := .bool true) rfl rfl rfl
      · intro W hR; clear hR; go_simp
      simp only [List.set_cons_succ, List.set_cons_zero, Nat.reduceAdd]
      apply RegT.T_pure (v := .bool true) rfl rfl rfl
      · intro W hR; clear hR; go_simp
      simp only [List.set_cons_succ, List.set_cons_zero, Nat.reduceAdd]
      refine RegT.T_end rfl (fun W7 hR hf => ?_)
      have hB7 : Below w.heap.size w W7 := HC.out.2.2.2.trans (((Below.refl W5.heap.size W5).drew.trans hR).mono HC.out.2.2.2.size)
      have HB7 := Lib.hid hB7
      clear hR hf hB7
      go_wp2
      go_ret
      exact ⟨rfl, HB7.out⟩
    · rfl
    · kernel_rfl
  · rfl
  · kernel_rfl

set_option maxRecDepth 100000 in
set_option maxHeartbeats 3200000 in
theorem nsameE_w (w : World) (cx cz : Array Value) (sm : Bool) (bx bz : List UInt8) (hbz : decide (bx = bz) = sm) (h : NsCalls w cx cz false false sm 0 0 bx bz) : Calls Try.prog 4 #[.agg cx, .agg cz] w fun r w' => r = .returned (.bool true) ∧ Below w.heap.size w w' := by
  have hn1 : NcAt ((w.alloc (.cells cx 31)).alloc (.cells cz 31)) w.heap.size cx := (NcAt.new w cx).keeps ((Below.refl _ _).alloc (Nat.le_refl _) _).block
  have hn2 : NcAt ((w.alloc (.cells cx 31)).alloc (.cells cz 31)) (w.heap.size + 1) cz := by have := NcAt.new (w.alloc (.cells cx 31)) cz; rwa [show (w.alloc (.cells cx 31)).heap.size = w.heap.size + 1 by simp] at this
  have hn3 : Below w.heap.size w ((w.alloc (.cells cx 31)).alloc (.cells cz 31)) := ((Below.refl w.heap.size w).alloc (Nat.le_refl _) (.cells cx 31)).alloc (by simp) (.cells cz 31)
  have hn4 : Keeps w ((w.alloc (.cells cx 31)).alloc (.cells cz 31)) := hn3.block
  have HC := Lib.hid (And.intro hn1 (And.intro hn2 (And.intro hn4 hn3)))
  have HN := Lib.hid h
  clear hn1 hn2 hn3 hn4 h
  go_enter Try.func4, Try.ntmps4
  go_wp2_with (first
    | (refine wpList_load_nc rfl (.tmp 2) rfl rfl HC.out.1 HN.out.hx ?_)
    | (refine wpList_load_nc rfl (.tmp 3) rfl rfl HC.out.2.1 HN.out.hz ?_)
    | (go_at_call 16; (first | with_reducible refine (HN.out.lx _ HC.out.2.2.1).mono ?_ | with_reducible refine (HN.out.lz _ HC.out.2.2.1).mono ?_); rintro r w1 ⟨rfl, hB⟩; have HC := Lib.hid (And.intro (HC.out.1.keeps hB.block) (And.intro (HC.out.2.1.keeps hB.block) (And.intro (HC.out.2.2.1.trans hB.block) (HC.out.2.2.2.trans (hB.mono HC.out.2.2.2.size))))); clear hB)
    | (go_at_call 18; (with_reducible refine (HN.out.bx rfl rfl _ HC.out.2.2.1).mono ?_); rintro r w1 ⟨⟨p1, n1, c1, rfl, hr1⟩, hB⟩; have HR1 := Lib.hid hr1; have HC := Lib.hid (And.intro (HC.out.1.keeps hB.block) (And.intro (HC.out.2.1.keeps hB.block) (And.intro (HC.out.2.2.1.trans hB.block) (HC.out.2.2.2.trans (hB.mono HC.out.2.2.2.size))))); clear hr1; clear hB)
    | (go_at_call 18; (with_reducible refine (HN.out.bz rfl rfl _ HC.out.2.2.1).mono ?_); rintro r w2 ⟨⟨p2, n2, c2, rfl, hr2⟩, hB⟩; have HR1 := Lib.hid (HR1.out.keeps hB.block); have HR2 := Lib.hid hr2; have HC := Lib.hid (And.intro (HC.out.1.keeps hB.block) (And.intro (HC.out.2.1.keeps hB.block) (And.intro (HC.out.2.2.1.trans hB.block) (HC.out.2.2.2.trans (hB.mono HC.out.2.2.2.size))))); clear hr2; clear hB))
  have HX := Lib.hid (fun (W : World) (hR : RegT.Grow w2.drew W) => HC.out.1.keeps ((Keeps.refl w2).drew.trans hR.block))
  have HZ := Lib.hid (fun (W : World) (hR : RegT.Grow w2.drew W) => HC.out.2.1.keeps ((Keeps.refl w2).drew.trans hR.block))
  have HS1 := Lib.hid (fun (W : World) (hk : Keeps w2 W) => HN.out.s1 rfl rfl W (HC.out.2.2.1.trans hk))
  have HS2 := Lib.hid (fun (W : World) (hk : Keeps w2 W) => HN.out.s2 rfl rfl W (HC.out.2.2.1.trans hk))
  have HS3 := Lib.hid (fun (W : World) (hk : Keeps w2 W) => HN.out.s3 rfl rfl W (HC.out.2.2.1.trans hk))
  apply RegT.wp_region_T rfl 62 16 rfl (by kernel_rfl) RegT.Grow RegT.Grow.refl RegT.Grow.trans
  · apply RegT.T_pure rfl rfl rfl
    · exact fun W hR => load_nc (.tmp 2) rfl rfl (HX.out W hR) HN.out.hx
    simp only [List.set_cons_succ, List.set_cons_zero, Nat.reduceAdd]
    apply RegT.T_pure rfl rfl rfl
    · exact fun W hR => load_nc (.tmp 3) rfl rfl (HZ.out W hR) HN.out.hz
    simp only [List.set_cons_succ, List.set_cons_zero, Nat.reduceAdd]
    apply RegT.T_const rfl rfl rfl (.bool sm) (fun _ _ h => h)
    · intro W hR hf
      have Hc := Lib.hid (HS1.out W ((Keeps.refl w2).drew.trans hR.block))
      clear hR hf
      go_simp
      exact RegT.OpOK_enter Hc.out (fun e w' h => ⟨_, h.1, rfl, h.2⟩)
    simp only [List.set_cons_succ, List.set_cons_zero, Nat.reduceAdd]
    apply RegT.T_pure rfl rfl rfl
    · exact fun W hR => load_nc (.tmp 2) rfl rfl (HX.out W hR) HN.out.hx
    simp only [List.set_cons_succ, List.set_cons_zero, Nat.reduceAdd]
    apply RegT.T_pure rfl rfl rfl
    · exact fun W hR => load_nc (.tmp 3) rfl rfl (HZ.out W hR) HN.out.hz
    simp only [List.set_cons_succ, List.set_cons_zero, Nat.reduceAdd]
    apply RegT.T_const rfl rfl rfl (.bool sm) (fun _ _ h => h)
    · intro W hR hf
      have Hc := Lib.hid (HS2.out W ((Keeps.refl w2).drew.trans hR.block))
      clear hR hf
      go_simp
      exact RegT.OpOK_enter Hc.out (fun e w' h => ⟨_, h.1, rfl, h.2⟩)
    simp only [List.set_cons_succ, List.set_cons_zero, Nat.reduceAdd]
    apply RegT.T_pure (v := .bool false) rfl rfl rfl
    · intro W hR; clear hR; go_simp
    simp only [List.set_cons_succ, List.set_cons_zero, Nat.reduceAdd]
    apply RegT.T_pure (v := .bool false) rfl rfl rfl
    · intro W hR; clear hR; go_simp
    simp only [List.set_cons_succ, List.set_cons_zero, Nat.reduceAdd]
    apply RegT.T_pure rfl rfl rfl
    · exact fun W hR => load_nc (.tmp 3) rfl rfl (HZ.out W hR) HN.out.hz
    simp only [List.set_cons_succ, List.set_cons_zero, Nat.reduceAdd]
    apply RegT.T_pure rfl rfl rfl
    · exact fun W hR => load_nc (.tmp 2) rfl rfl (HX.out W hR) HN.out.hx
    simp only [List.set_cons_succ, List.set_cons_zero, Nat.reduceAdd]
    apply RegT.T_const rfl rfl rfl (.bool sm) (fun _ _ h => h)
    · intro W hR hf
      have Hc := Lib.hid (HS3.out W ((Keeps.refl w2).drew.trans hR.block))
      clear hR hf
      go_simp
      exact RegT.OpOK_enter Hc.out (fun e w' h => ⟨_, h.1, rfl, h.2⟩)
    simp only [List.set_cons_succ, List.set_cons_zero, Nat.reduceAdd]
    apply RegT.T_pure rfl rfl rfl
    · exact fun W hR => load_nc (.tmp 2) rfl rfl (HX.out W hR) HN.out.hx
    simp only [List.set_cons_succ, List.set_cons_zero, Nat.reduceAdd]
    apply RegT.T_pure rfl rfl rfl
    · exact fun W hR => load_nc (.tmp 3) rfl rfl (HZ.out W hR) HN.out.hz
    simp only [List.set_cons_succ, List.set_cons_zero, Nat.reduceAdd]
    apply RegT.T_const rfl rfl rfl (.bool sm) (fun _ _ h => h)
    · intro W hR hf
      have Hc := Lib.hid (HS2.out W ((Keeps.refl w2).drew.trans hR.block))
      clear hR hf
      go_simp
      exact RegT.OpOK_enter Hc.out (fun e w' h => ⟨_, h.1, rfl, h.2⟩)
    simp only [List.set_cons_succ, List.set_cons_zero, Nat.reduceAdd]
    apply RegT.T_pure (v := .bool false) rfl rfl rfl
    · intro W hR; clear hR; go_simp
    simp only [List.set_cons_succ, List.set_cons_zero, Nat.reduceAdd]
    apply RegT.T_pure (v := .bool false) rfl rfl rfl
    · intro W hR; clear hR; go_simp
    simp only [List.set_cons_succ, List.set_cons_zero, Nat.reduceAdd]
    refine RegT.T_end rfl (fun W5 hR hf => ?_)
    have hB : Below w2.heap.size w2 W5 := (Below.refl w2.heap.size w2).drew.trans hR
    have HR1 := Lib.hid (HR1.out.keeps hB.block)
    have HR2 := Lib.hid (HR2.out.keeps hB.block)
    have HC := Lib.hid (And.intro (HC.out.1.keeps hB.block) (And.intro (HC.out.2.1.keeps hB.block) (And.intro (HC.out.2.2.1.trans hB.block) (HC.out.2.2.2.trans (hB.mono HC.out.2.2.2.size)))))
    clear hR hf hB HX HZ HS1 HS2 HS3
    go_wp2
    have HX := Lib.hid (fun (W : World) (hR : RegT.Grow W5.drew W) => HC.out.1.keeps ((Keeps.refl W5).drew.trans hR.block))
    have HZ := Lib.hid (fun (W : World) (hR : RegT.Grow W5.drew W) => HC.out.2.1.keeps ((Keeps.refl W5).drew.trans hR.block))
    have HS1 := Lib.hid (fun (W : World) (hk : Keeps W5 W) => HN.out.s1 rfl rfl W (HC.out.2.2.1.trans hk))
    have HS2 := Lib.hid (fun (W : World) (hk : Keeps W5 W) => HN.out.s2 rfl rfl W (HC.out.2.2.1.trans hk))
    have HS3 := Lib.hid (fun (W : World) (hk : Keeps W5 W) => HN.out.s3 rfl rfl W (HC.out.2.2.1.trans hk))
    have HT1 := Lib.hid (fun (W : World) (hk : Keeps W5 W) => run_convert_str (P := Try.prog) (HR1.out.keeps hk) 29 5 9 Try.underlying29 Try.underlying5 Try.underlying9)
    have HT2 := Lib.hid (fun (W : World) (hk : Keeps W5 W) => run_convert_str (P := Try.prog) (HR2.out.keeps hk) 29 5 9 Try.underlying29 Try.underlying5 Try.underlying9)
    have hs := str_beq bx bz
    rw [hbz] at hs
    apply RegT.wp_region_T rfl 62 21 rfl (by kernel_rfl) RegT.Grow RegT.Grow.refl RegT.Grow.trans
    · apply RegT.T_pure (v := .int .i64 0) rfl rfl rfl
      · intro W hR; clear hR; go_simp
      simp only [List.set_cons_succ, List.set_cons_zero, Nat.reduceAdd]
      apply RegT.T_pure (v := .bool false) rfl rfl rfl
      · intro W hR; clear hR; go_simp
      simp only [List.set_cons_succ, List.set_cons_zero, Nat.reduceAdd]
      apply RegT.T_pure (v := .bool false) rfl rfl rfl
      · intro W hR; clear hR; go_simp
      simp only [List.set_cons_succ, List.set_cons_zero, Nat.reduceAdd]
      apply RegT.T_pure (v := .int .i64 0) rfl rfl rfl
      · intro W hR; clear hR; go_simp
      simp only [List.set_cons_succ, List.set_cons_zero, Nat.reduceAdd]
      apply RegT.T_pure (v := .bool false) rfl rfl rfl
      · intro W hR; clear hR; go_simp
      simp only [List.set_cons_succ, List.set_cons_zero, Nat.reduceAdd]
      apply RegT.T_pure (v := .bool false) rfl rfl rfl
      · intro W hR; clear hR; go_simp
      simp only [List.set_cons_succ, List.set_cons_zero, Nat.reduceAdd]
      apply RegT.T_pure (v := .bool false) rfl rfl rfl
      · intro W hR; clear hR; go_simp
      simp only [List.set_cons_succ, List.set_cons_zero, Nat.reduceAdd]
      apply RegT.T_pure (v := .slice p1 n1 c1) rfl rfl rfl
      · intro W hR; clear hR; go_simp
      simp only [List.set_cons_succ, List.set_cons_zero, Nat.reduceAdd]
      apply RegT.T_pure (v := .string ⟨bx.toArray⟩) rfl rfl rfl
      · intro W hR
        have hc := HT1.out W ((Keeps.refl W5).drew.trans hR.block)
        clear hR
        go_simp
      simp only [List.set_cons_succ, List.set_cons_zero, Nat.reduceAdd]
      apply RegT.T_pure (v := .slice p2 n2 c2) rfl rfl rfl
      · intro W hR; clear hR; go_simp
      simp only [List.set_cons_succ, List.set_cons_zero, Nat.reduceAdd]
      apply RegT.T_pure (v := .string ⟨bz.toArray⟩) rfl rfl rfl
      · intro W hR
        have hc := HT2.out W ((Keeps.refl W5).drew.trans hR.block)
        clear hR
        go_simp
      simp only [List.set_cons_succ, List.set_cons_zero, Nat.reduceAdd]
      apply RegT.T_pure (v := .bool sm) rfl rfl rfl
      · intro W hR; clear hR; go_simp; rw [← hbz]; by_cases e : bx = bz <;> simp [e]
      simp only [List.set_cons_succ, List.set_cons_zero, Nat.reduceAdd]
      apply RegT.T_pure rfl rfl rfl
      · exact fun W hR => load_nc (.tmp 2) rfl rfl (HX.out W hR) HN.out.hx
      simp only [List.set_cons_succ, List.set_cons_zero, Nat.reduceAdd]
      apply RegT.T_pure rfl rfl rfl
      · exact fun W hR => load_nc (.tmp 3) rfl rfl (HZ.out W hR) HN.out.hz
      simp only [List.set_cons_succ, List.set_cons_zero, Nat.reduceAdd]
      apply RegT.T_const rfl rfl rfl (.bool sm) (fun _ _ h => h)
      · intro W hR hf
        have Hc := Lib.hid (HS2.out W ((Keeps.refl W5).drew.trans hR.block))
        clear hR hf
        go_simp
        exact RegT.OpOK_enter Hc.out (fun e w' h => ⟨_, h.1, rfl, h.2⟩)
      simp only [List.set_cons_succ, List.set_cons_zero, Nat.reduceAdd]
      apply RegT.T_pure (v := .bool true) rfl rfl rfl
      · intro W hR; clear hR; cases sm <;> go_simp
      simp only [List.set_cons_succ, List.set_cons_zero, Nat.reduceAdd]
      apply RegT.T_pure (v := .bool true) rfl rfl rfl
      · intro W hR; clear hR; go_simp
      simp only [List.set_cons_succ, List.set_cons_zero, Nat.reduceAdd]
      apply RegT.T_pure (v := .bool true) rfl rfl rfl
      · intro W hR; clear hR; go_simp
      simp only [List.set_cons_succ, List.set_cons_zero, Nat.reduceAdd]
      apply RegT.T_const rfl rfl rfl (.bool true) (fun _ _ h => h)
      · intro W hR hf
        have Hc := Lib.hid (known23_w W)
        clear hR hf
        go_simp
        exact RegT.OpOK_enter Hc.out (fun e w' h => ⟨_, h.1, rfl, h.2⟩)
      simp only [List.set_cons_succ, List.set_cons_zero, Nat.reduceAdd]
      apply RegT.T_pure (v := .bool true) rfl rfl rfl
      · intro W hR; clear hR; go_simp
      simp only [List.set_cons_succ, List.set_cons_zero, Nat.reduceAdd]
      apply RegT.T_pure (v := .bool true) rfl rfl rfl
      · intro W hR; clear hR; go_simp
      simp only [List.set_cons_succ, List.set_cons_zero, Nat.reduceAdd]
      refine RegT.T_end rfl (fun W7 hR hf => ?_)
      have hB7 : Below w.heap.size w W7 := HC.out.2.2.2.trans (((Below.refl W5.heap.size W5).drew.trans hR).mono HC.out.2.2.2.size)
      have HB7 := Lib.hid hB7
      clear hR hf hB7
      go_wp2
      go_ret
      exact ⟨rfl, HB7.out⟩
    · rfl
    · kernel_rfl
  · rfl
  · kernel_rfl
end Go.Proofs.Yteellfgiejnigaa
