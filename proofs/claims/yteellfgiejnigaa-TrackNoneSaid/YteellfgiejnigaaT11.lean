/- Tracks that are not there: the walks. -/
import Derived.Test.YteellfgiejnigaaT8
namespace Go.Proofs.Yteellfgiejnigaa
open Go.ChangeShapes Go.WideShapes Go.ChangeAt Go.RowKit
set_option linter.unusedVariables false

theorem add_nil_w (p : Option Addr) (n c : Nat) (w : World) : Calls Try.prog 27 #[.pointer none, .slice p n c] w fun r w' => (∃ x, r = .returned x) ∧ Below w.heap.size w w' := by
  go_enter Try.func27, Try.ntmps27
  go_wp2
  refine bodyPost_ret (results_none rfl _ _ _) rfl ?_
  exact ⟨⟨_, rfl⟩, Below.refl _ _⟩
theorem base_nil_w (w : World) : Calls Try.prog 42 #[.pointer none] w fun r w' => r = .returned (.tuple #[.int .u64 0, .int .u64 0]) ∧ Below w.heap.size w w' := by
  go_enter Try.func42, Try.ntmps42
  go_wp2
  go_ret2
  exact ⟨rfl, Below.refl _ _⟩
theorem tip_nil_w (w : World) : Calls Try.prog 23 #[.pointer none] w fun r w' => r = .returned (.tuple #[.int .u64 0, .int .u64 0]) ∧ Below w.heap.size w w' := by
  go_enter Try.func23, Try.ntmps23
  go_wp2
  go_ret2
  exact ⟨rfl, Below.refl _ _⟩
theorem termat_nil_w (n : Nat) (w : World) : Calls Try.prog 28 #[.pointer none, .int .u64 (n : Int)] w fun r w' => r = .returned (.tuple #[.int .u64 0, .bool false]) ∧ Below w.heap.size w w' := by
  go_enter Try.func28, Try.ntmps28
  go_wp2
  go_ret2
  exact ⟨rfl, Below.refl _ _⟩
theorem slice_nil_w (n : Nat) (m : Int) (w : World) : Calls Try.prog 25 #[.pointer none, .int .u64 (n : Int), .int .i64 m] w fun r w' => r = .returned (.slice none 0 0) ∧ Below w.heap.size w w' := by
  go_enter Try.func25, Try.ntmps25
  go_wp2
  go_ret
  exact ⟨rfl, Below.refl _ _⟩
theorem may_nil_w (n : Nat) (w : World) : Calls Try.prog 79 #[.pointer none, .int .u64 (n : Int)] w fun r w' => r = .returned (.int .i64 1) ∧ Below w.heap.size w w' := by
  go_enter Try.func79, Try.ntmps79
  go_wp2
  go_ret
  exact ⟨rfl, Below.refl _ _⟩
theorem cut_nil_w (n : Nat) (w : World) : Calls Try.prog 26 #[.pointer none, .int .u64 (n : Int)] w fun r w' => r = .returned (.int .i64 1) ∧ Below w.heap.size w w' := by
  go_enter Try.func26, Try.ntmps26
  go_wp2_with (go_at_call 79; refine (may_nil_w n w).mono ?_; rintro r w1 ⟨rfl, hB⟩; have HB := Lib.hid hB; clear hB)
  go_ret
  exact ⟨rfl, HB.out⟩
theorem pack_nil_w (n : Nat) (w : World) : Calls Try.prog 34 #[.pointer none, .int .u64 (n : Int)] w fun r w' => r = .returned (.int .i64 1) ∧ Below w.heap.size w w' := by
  go_enter Try.func34, Try.ntmps34
  go_wp2_with (go_at_call 79; refine (may_nil_w n w).mono ?_; rintro r w1 ⟨rfl, hB⟩; have HB := Lib.hid hB; clear hB)
  go_ret
  exact ⟨rfl, HB.out⟩
theorem copy_nil_w (w : World) : Calls Try.prog 39 #[.pointer none] w fun r w' => r = .returned (.pointer none) ∧ Below w.heap.size w w' := by
  go_enter Try.func39, Try.ntmps39
  go_wp2
  go_ret
  exact ⟨rfl, Below.refl _ _⟩
end Go.Proofs.Yteellfgiejnigaa
