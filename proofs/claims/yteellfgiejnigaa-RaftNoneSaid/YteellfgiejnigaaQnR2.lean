/- Nodes that are not there: ticks, notes, proposals. -/
import Derived.Test.YteellfgiejnigaaQnL2
import Derived.Test.YteellfgiejnigaaQnR1
namespace Go.Proofs.Yteellfgiejnigaa
open Go.ChangeShapes Go.WideShapes Go.ChangeAt Go.RowKit
set_option linter.unusedVariables false
/-- What wants nothing. -/
def out0 : Value := .agg #[.bool false, .bool false, .int .u8 0, .int .u64 0, .int .u64 0, .int .u64 0, .int .u64 0, .int .u64 0, .bool false, .slice none 0 0, .slice none 0 0, .bool false, .int .u64 0, .slice none 0 0, .slice none 0 0, .slice none 0 0]
/-- The cells of what wants nothing. -/
def out0C : Array Value := #[.bool false, .bool false, .int .u8 0, .int .u64 0, .int .u64 0, .int .u64 0, .int .u64 0, .int .u64 0, .bool false, .slice none 0 0, .slice none 0 0, .bool false, .int .u64 0, .slice none 0 0, .slice none 0 0, .slice none 0 0]
theorem out_behind {w w1 : World} (hB : Below (w.alloc (.cells out0C 100)).heap.size (w.alloc (.cells out0C 100)) w1) : w1.heap[w.heap.size]? = some (.cells out0C 100) := by
  have h : (w.alloc (.cells out0C 100)).heap[w.heap.size]? = some (.cells out0C 100) := heap_alloc_new w _
  rw [hB.block _ (Array.getElem?_eq_some_iff.1 h).1]; exact h
theorem below_behind {w w1 : World} (hB : Below (w.alloc (.cells out0C 100)).heap.size (w.alloc (.cells out0C 100)) w1) : Below w.heap.size w w1 := by
  have h : Below w.heap.size w (w.alloc (.cells out0C 100)) := (Below.refl _ _).alloc (Nat.le_refl _) _
  refine h.trans ?_
  exact ⟨hB.os, hB.tape, hB.output, hB.size, fun b hb => hB.block b (by rw [heap_alloc_size]; omega)⟩
set_option maxRecDepth 100000 in
theorem tick_no_w (v : Value) (d : Int) (w : World) (h : NoR w v) : Calls Try.prog 58 #[v, .int .u64 d] w fun r w' => r = .returned out0 ∧ Below w.heap.size w w' := by
  go_enter Try.func58, Try.ntmps58
  go_wp2_with (first
    | (refine wpList_store_rowTo rfl 100 (.tmp 4) (.tmp 8) rfl rfl _ #[.bool false, .bool false, .int .u8 0, .int .u64 0, .int .u64 0, .int .u64 0, .int .u64 0, .int .u64 0, .bool false, .slice none 0 0, .slice none 0 0, .bool false, .int .u64 0, .slice none 0 0, .slice none 0 0, .slice none 0 0] rfl rfl 100 #[.bool false, .bool false, .int .u8 0, .int .u64 0, .int .u64 0, .int .u64 0, .int .u64 0, .int .u64 0, .bool false, .slice none 0 0, .slice none 0 0, .bool false, .int .u64 0, .slice none 0 0, .slice none 0 0, .slice none 0 0] hr (show _ = some 16 by kernel_rfl) rfl (by simp [Value.oneCell']) ?_)
    | (go_at_call 106; refine (none_no_w v _ (h.below ((Below.refl _ _).alloc (Nat.le_refl _) _))).mono ?_; rintro r w1 ⟨rfl, hB⟩; have hr := out_behind hB; unfold out0C at hr; have HB := Lib.hid (below_behind hB); clear hB))
  refine bodyPost_ret (v := out0) (results_cell_row rfl _ _ w.heap.size 100 _ _ _ rfl (setRow_heap _ _ _ _ _ _ hr) Try.underlying100 rfl (show _ = some 16 by kernel_rfl)) rfl ?_
  exact ⟨rfl, Below_setRow HB.out (Nat.le_refl _) _⟩
theorem below_box {w w1 : World} {cx : Array Value} (hB : Below ((w.alloc (.cells cx 31)).alloc (.cells out0C 100)).heap.size ((w.alloc (.cells cx 31)).alloc (.cells out0C 100)) w1) : Below w.heap.size w w1 := by
  have h := below_behind (w := w.alloc (.cells cx 31)) hB
  have h0 : Below w.heap.size w (w.alloc (.cells cx 31)) := (Below.refl _ _).alloc (Nat.le_refl _) _
  refine h0.trans ?_
  exact ⟨h.os, h.tape, h.output, h.size, fun b hb => h.block b (by rw [heap_alloc_size]; omega)⟩
set_option maxRecDepth 100000 in
theorem hear_no_w (v : Value) (f d k t rd ix at' cm : Int) (y : Bool) (pl pd : Option Addr) (nl cl nd cd : Nat) (w : World) (h : NoR w v) : Calls Try.prog 59 #[v, .int .i64 f, .agg #[.int .u8 k, .int .u64 t, .int .u64 rd, .int .u64 ix, .int .u64 at', .int .u64 cm, .bool y, .slice pl nl cl, .slice pd nd cd], .int .u64 d] w fun r w' => r = .returned out0 ∧ Below w.heap.size w w' := by
  go_enter Try.func59, Try.ntmps59
  go_wp2_with (first
    | (refine wpList_store_rowTo rfl 100 (.tmp 8) (.tmp 40) rfl rfl _ #[.bool false, .bool false, .int .u8 0, .int .u64 0, .int .u64 0, .int .u64 0, .int .u64 0, .int .u64 0, .bool false, .slice none 0 0, .slice none 0 0, .bool false, .int .u64 0, .slice none 0 0, .slice none 0 0, .slice none 0 0] rfl rfl 100 #[.bool false, .bool false, .int .u8 0, .int .u64 0, .int .u64 0, .int .u64 0, .int .u64 0, .int .u64 0, .bool false, .slice none 0 0, .slice none 0 0, .bool false, .int .u64 0, .slice none 0 0, .slice none 0 0, .slice none 0 0] hr (show _ = some 16 by kernel_rfl) rfl (by simp [Value.oneCell']) ?_)
    | (go_at_call 106; refine (none_no_w v _ (h.below (((Below.refl _ _).alloc (Nat.le_refl _) _).alloc (by rw [heap_alloc_size]; omega) _))).mono ?_; rintro r w1 ⟨rfl, hB⟩; have hr := out_behind (w := w.alloc (.cells #[.int .u8 k, .int .u64 t, .int .u64 rd, .int .u64 ix, .int .u64 at', .int .u64 cm, .bool y, .slice pl nl cl, .slice pd nd cd] 31)) hB; rw [heap_alloc_size] at hr; unfold out0C at hr; have HB := Lib.hid (below_box hB); clear hB))
  refine bodyPost_ret (v := out0) (results_cell_row rfl _ _ (w.heap.size + 1) 100 _ _ _ (by first | rfl | simp [heap_alloc_size]) (setRow_heap _ _ _ _ _ _ hr) Try.underlying100 rfl (show _ = some 16 by kernel_rfl)) rfl ?_
  exact ⟨rfl, Below_setRow HB.out (by omega) _⟩
theorem results_mid_row {fn : Func} {t p u : Tmp} {ty : TypeId} (h : fn.results = #[.tmp t, .cell p ty, .tmp u]) (tmps : Array Value) (w : World) (g : Nat) (tt : TypeId) (cs : Array Value) (fr : Nat × Nat) (d : TypeDesc)
    (hp : tmps.getD p undef = .pointer (some ⟨g, 0, none⟩)) (hg : w.heap[g]? = some (.cells cs tt fr))
    (hd : (match d with | .struct _ | .array _ _ => true | _ => false) = true) (hu : Try.prog.underlying ty = some d) (hi : (Try.prog.info? ty).map (·.size) = some cs.size) :
    (results fn tmps).run Try.prog w = .ok (.tuple #[tmps.getD t undef, .agg cs, tmps.getD u undef]) w := by
  have hp' : tmps[p]?.getD undef = .pointer (some ⟨g, 0, none⟩) := by simpa using hp
  simp [results, h, hp', asAddr, run_loadVar_row w g tt ty cs fr d hg hu (by cases d <;> first | rfl | exact hd | cases hd) hi]
set_option maxRecDepth 100000 in
theorem propose_no_w (v : Value) (p : Option Addr) (n c : Nat) (w : World) (h : NoR w v) : Calls Try.prog 56 #[v, .slice p n c] w fun r w' => r = .returned (.tuple #[.int .u64 0, out0, .int .i64 1]) ∧ Below w.heap.size w w' := by
  go_enter Try.func56, Try.ntmps56
  go_wp2_with (first
    | (refine wpList_store_rowTo rfl 100 (.tmp 5) (.tmp 12) rfl rfl _ #[.bool false, .bool false, .int .u8 0, .int .u64 0, .int .u64 0, .int .u64 0, .int .u64 0, .int .u64 0, .bool false, .slice none 0 0, .slice none 0 0, .bool false, .int .u64 0, .slice none 0 0, .slice none 0 0, .slice none 0 0] rfl rfl 100 #[.bool false, .bool false, .int .u8 0, .int .u64 0, .int .u64 0, .int .u64 0, .int .u64 0, .int .u64 0, .bool false, .slice none 0 0, .slice none 0 0, .bool false, .int .u64 0, .slice none 0 0, .slice none 0 0, .slice none 0 0] hr (show _ = some 16 by kernel_rfl) rfl (by simp [Value.oneCell']) ?_)
    | (go_at_call 106; refine (none_no_w v _ (h.below ((Below.refl _ _).alloc (Nat.le_refl _) _))).mono ?_; rintro r w1 ⟨rfl, hB⟩; have hr := out_behind hB; unfold out0C at hr; have HB := Lib.hid (below_behind hB); clear hB))
  refine bodyPost_ret (results_mid_row rfl _ _ w.heap.size 100 _ _ _ rfl (setRow_heap _ _ _ _ _ _ hr) rfl Try.underlying100 (show _ = some 16 by kernel_rfl)) rfl ?_
  exact ⟨rfl, Below_setRow HB.out (Nat.le_refl _) _⟩
end Go.Proofs.Yteellfgiejnigaa
