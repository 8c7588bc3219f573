/- Nodes that are not there: the walks. -/
import Derived.Test.YteellfgiejnigaaQnL1
import Derived.Test.YteellfgiejnigaaRows
import Derived.Below
import Derived.Laws.Rows
import Derived.Lib.Hide
namespace Go.Proofs.Yteellfgiejnigaa
open Go.ChangeShapes Go.WideShapes Go.ChangeAt Go.RowKit
set_option linter.unusedVariables false
/-- No node: nil, or one that was not made. -/
def NoR (w : World) (v : Value) : Prop := v = .pointer none ∨ ∃ p cs, v = .pointer (some ⟨p, 0, none⟩) ∧ w.heap[p]? = some (.cells cs 95) ∧ cs[5]? = some (.pointer none)
theorem NoR.below {w w' : World} {v : Value} (h : NoR w v) (hB : Below w.heap.size w w') : NoR w' v := by
  rcases h with rfl | ⟨p, cs, rfl, hc, h5⟩
  · exact .inl rfl
  · exact .inr ⟨p, cs, rfl, by rw [hB.block p (Array.getElem?_eq_some_iff.1 hc).1]; exact hc, h5⟩
theorem none_no_w (v : Value) (w : World) (h : NoR w v) : Calls Try.prog 106 #[v] w fun r w' => r = .returned (.bool true) ∧ Below w.heap.size w w' := by
  rcases h with rfl | ⟨p, cs, rfl, hg, h5⟩
  · go_enter Try.func106, Try.ntmps106
    go_wp2
    go_ret
    exact ⟨rfl, Below.refl _ _⟩
  · have hc : w.cell? ⟨p, 5, none⟩ = some (.pointer none) := by rw [cell_of_row _ _ _ _ _ _ hg]; exact h5
    go_enter Try.func106, Try.ntmps106
    go_wp2
    go_ret
    exact ⟨rfl, Below.refl _ _⟩
theorem role_no_w (v : Value) (w : World) (h : NoR w v) : Calls Try.prog 61 #[v] w fun r w' => r = .returned (.int .u8 0) ∧ Below w.heap.size w w' := by
  go_enter Try.func61, Try.ntmps61
  go_wp2_with (go_at_call 106; refine (none_no_w v w h).mono ?_; rintro r w1 ⟨rfl, hB⟩; have HB := Lib.hid hB; clear hB)
  go_ret
  exact ⟨rfl, HB.out⟩
theorem term_no_w (v : Value) (w : World) (h : NoR w v) : Calls Try.prog 62 #[v] w fun r w' => r = .returned (.int .u64 0) ∧ Below w.heap.size w w' := by
  go_enter Try.func62, Try.ntmps62
  go_wp2_with (go_at_call 106; refine (none_no_w v w h).mono ?_; rintro r w1 ⟨rfl, hB⟩; have HB := Lib.hid hB; clear hB)
  go_ret
  exact ⟨rfl, HB.out⟩
theorem for_no_w (v : Value) (w : World) (h : NoR w v) : Calls Try.prog 63 #[v] w fun r w' => r = .returned (.int .i64 (-1)) ∧ Below w.heap.size w w' := by
  go_enter Try.func63, Try.ntmps63
  go_wp2_with (go_at_call 106; refine (none_no_w v w h).mono ?_; rintro r w1 ⟨rfl, hB⟩; have HB := Lib.hid hB; clear hB)
  go_ret
  exact ⟨rfl, HB.out⟩
theorem leader_no_w (v : Value) (w : World) (h : NoR w v) : Calls Try.prog 64 #[v] w fun r w' => r = .returned (.int .i64 (-1)) ∧ Below w.heap.size w w' := by
  go_enter Try.func64, Try.ntmps64
  go_wp2_with (go_at_call 106; refine (none_no_w v w h).mono ?_; rintro r w1 ⟨rfl, hB⟩; have HB := Lib.hid hB; clear hB)
  go_ret
  exact ⟨rfl, HB.out⟩
theorem commit_no_w (v : Value) (w : World) (h : NoR w v) : Calls Try.prog 65 #[v] w fun r w' => r = .returned (.int .u64 0) ∧ Below w.heap.size w w' := by
  go_enter Try.func65, Try.ntmps65
  go_wp2_with (go_at_call 106; refine (none_no_w v w h).mono ?_; rintro r w1 ⟨rfl, hB⟩; have HB := Lib.hid hB; clear hB)
  go_ret
  exact ⟨rfl, HB.out⟩
theorem track_no_w (v : Value) (w : World) (h : NoR w v) : Calls Try.prog 66 #[v] w fun r w' => r = .returned (.pointer none) ∧ Below w.heap.size w w' := by
  go_enter Try.func66, Try.ntmps66
  go_wp2_with (go_at_call 106; refine (none_no_w v w h).mono ?_; rintro r w1 ⟨rfl, hB⟩; have HB := Lib.hid hB; clear hB)
  go_ret
  exact ⟨rfl, HB.out⟩
theorem rcopy_no_w (v : Value) (w : World) (h : NoR w v) : Calls Try.prog 67 #[v] w fun r w' => r = .returned (.pointer none) ∧ Below w.heap.size w w' := by
  go_enter Try.func67, Try.ntmps67
  go_wp2_with (go_at_call 106; refine (none_no_w v w h).mono ?_; rintro r w1 ⟨rfl, hB⟩; have HB := Lib.hid hB; clear hB)
  go_ret
  exact ⟨rfl, HB.out⟩
theorem ndpack_no_w (v : Value) (n : Nat) (w : World) (h : NoR w v) : Calls Try.prog 60 #[v, .int .u64 (n : Int)] w fun r w' => r = .returned (.int .i64 1) ∧ Below w.heap.size w w' := by
  go_enter Try.func60, Try.ntmps60
  go_wp2_with (go_at_call 106; refine (none_no_w v w h).mono ?_; rintro r w1 ⟨rfl, hB⟩; have HB := Lib.hid hB; clear hB)
  go_ret
  exact ⟨rfl, HB.out⟩
end Go.Proofs.Yteellfgiejnigaa
