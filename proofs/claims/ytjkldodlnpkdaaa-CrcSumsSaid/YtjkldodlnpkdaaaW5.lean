/- Walk of known. -/
import Derived.Test.YtjkldodlnpkdaaaW4
import Derived.Lib.SlBytesConst
namespace Go.Proofs.Ytjkldodlnpkdaaa
open Go.ChangeShapes Go.WideShapes Go.ChangeAt Go.RowKit
set_option linter.unusedVariables false

theorem kc2 (w : World) (o : Obj) (C : Array Value) (n c : Nat) : (convert 23 23 (.slice (some ⟨w.heap.size + 1, 0, none⟩) n c)).run Try.prog ((w.alloc o).alloc (.cells C 5)) = .ok (.slice (some ⟨w.heap.size + 1, 0, none⟩) n c) ((w.alloc o).alloc (.cells C 5 (C.size, C.size + 1))) := by
  have := Lib.run_convert_bytes_const (P := Try.prog) (w.alloc o) 23 5 C n c Try.underlying23 Try.underlying5
  simpa using this
set_option maxHeartbeats 400000 in
theorem known_w (w : World) : Calls Try.prog 10 #[] w fun e w' => e = .returned (.bool true) ∧ Below w.heap.size w w' := by
  have kc := fun (w : World) (C : Array Value) (n c : Nat) => Lib.run_convert_bytes_const (P := Try.prog) w 23 5 C n c Try.underlying23 Try.underlying5
  have kc2 := kc2
  go_enter Try.func10, Try.ntmps10
  go_wp2_with fail
  refine (sum_w _ [[49, 50, 51, 52], [53, 54, 55, 56, 57]] _ ?_ (by decide) (by decide)).mono ?_
  · refine RdBs_of_block (vs := [.slice (some ⟨w.heap.size, 0, none⟩) 4 4, .slice (some ⟨w.heap.size + 1, 0, none⟩) 5 5]) (b := w.heap.size + 1 + 1) (e := 23) (fr := (0, 0)) (cs := #[.slice (some ⟨w.heap.size, 0, none⟩) 4 4, .slice (some ⟨w.heap.size + 1, 0, none⟩) 5 5]) ?_ rfl (by decide) (by decide) ?_ rfl ?_
    · simp only [heap_alloc_get, heap_alloc_size]; (repeat (first | rw [if_pos trivial] | rw [if_pos (by omega)] | rw [if_neg (by omega)]))
    · intro i hi
      match i, hi with
      | 0, _ => rfl
      | 1, _ => rfl
    · intro i hi
      match i, hi with
      | 0, _ =>
        refine RdB_of_block (b := w.heap.size) (e := 5) (fr := (4, 5)) (cs := #[.int .u8 49, .int .u8 50, .int .u8 51, .int .u8 52]) ?_ rfl (by decide) (by decide) ?_
        · simp only [heap_alloc_get, heap_alloc_size]; (repeat (first | rw [if_pos trivial] | rw [if_pos (by omega)] | rw [if_neg (by omega)]))
        · intro j hj
          match j, hj with
          | 0, _ => rfl
          | 1, _ => rfl
          | 2, _ => rfl
          | 3, _ => rfl
      | 1, _ =>
        refine RdB_of_block (b := w.heap.size + 1) (e := 5) (fr := (5, 6)) (cs := #[.int .u8 53, .int .u8 54, .int .u8 55, .int .u8 56, .int .u8 57]) ?_ rfl (by decide) (by decide) ?_
        · simp only [heap_alloc_get, heap_alloc_size]; (repeat (first | rw [if_pos trivial] | rw [if_pos (by omega)] | rw [if_neg (by omega)]))
        · intro j hj
          match j, hj with
          | 0, _ => rfl
          | 1, _ => rfl
          | 2, _ => rfl
          | 3, _ => rfl
          | 4, _ => rfl
  · rintro e w1 ⟨rfl, hb⟩
    rw [show Crc.sum [[49, 50, 51, 52], [53, 54, 55, 56, 57]].flatten = 3421780262 by decide +kernel]
    clear kc kc2
    have Hb := Lib.hid hb
    clear hb
    go_wp2
    go_ret
    refine ⟨rfl, ?_⟩
    exact ((((Below.refl _ _).alloc (Nat.le_refl _) _).alloc (by simp) _).alloc (by simp; omega) _).trans (Hb.out.mono (by simp; omega))
end Go.Proofs.Ytjkldodlnpkdaaa
