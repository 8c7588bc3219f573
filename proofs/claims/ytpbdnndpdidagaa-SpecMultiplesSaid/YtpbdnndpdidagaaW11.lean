/- Walks of the reader: one that is not there; Left, Int, Flag, Text, Fail. -/
import Derived.Test.YtpbdnndpdidagaaW10
import Derived.Test.YtpbdnndpdidagaaForm2
namespace Go.Proofs.Ytpbdnndpdidagaa
open Go.ChangeShapes Go.WideShapes Go.ChangeAt Go.RowKit
set_option linter.unusedVariables false

theorem small_nil_w (m : Int) (w : World) : Calls Try.prog 37 #[.pointer none, .int .u64 m] w fun r w' => r = .returned (.int .u64 0) ∧ w = w' := by
  go_enter Try.func37, Try.ntmps37
  go_wp2_with (go_at_call 60; refine (off_nil_w _).mono ?_; rintro e w1 ⟨rfl, rfl⟩)
  go_ret
  exact ⟨rfl, rfl⟩
set_option maxRecDepth 100000 in
theorem rnat_nil_w (w : World) : Calls Try.prog 30 #[.pointer none] w fun r w' => r = .returned (.int .u64 0) ∧ w = w' := by
  have H := Lib.hid (small_nil_w 18446744073709551615 w)
  go_enter Try.func30, Try.ntmps30
  go_wp2_with (go_at_call 37; refine (H.out).mono ?_; rintro e w1 ⟨rfl, rfl⟩)
  go_ret
  exact ⟨rfl, rfl⟩
theorem rint_nil_w (w : World) : Calls Try.prog 31 #[.pointer none] w fun r w' => r = .returned (.int .i64 0) ∧ w = w' := by
  have e1 : bits .xor .i64 0 0 = 0 := by decide
  have e2 : bits .and .u64 0 1 = 0 := by decide
  go_enter Try.func31, Try.ntmps31
  go_wp2_with (go_at_call 30; refine (rnat_nil_w _).mono ?_; rintro e w1 ⟨rfl, rfl⟩)
  go_ret
  exact ⟨rfl, rfl⟩
theorem rflag_nil_w (w : World) : Calls Try.prog 40 #[.pointer none] w fun r w' => r = .returned (.bool false) ∧ w = w' := by
  go_enter Try.func40, Try.ntmps40
  go_wp2_with (go_at_call 60; refine (off_nil_w _).mono ?_; rintro e w1 ⟨rfl, rfl⟩)
  go_ret
  exact ⟨rfl, rfl⟩
theorem rtext_nil_w (m : Int) (w : World) : Calls Try.prog 32 #[.pointer none, .int .i64 m] w fun r w' => r = .returned (.slice none 0 0) ∧ w = w' := by
  go_enter Try.func32, Try.ntmps32
  go_wp2_with (go_at_call 60; refine (off_nil_w _).mono ?_; rintro e w1 ⟨rfl, rfl⟩)
  go_ret
  exact ⟨rfl, rfl⟩
theorem fail_nil_w (m : Int) (w : World) : Calls Try.prog 43 #[.pointer none, .int .i64 m] w fun r w' => r = .returned (.tuple #[]) ∧ w = w' := by
  go_enter Try.func43, Try.ntmps43
  go_wp2_with (go_at_call 60; refine (off_nil_w _).mono ?_; rintro e w1 ⟨rfl, rfl⟩)
  go_end0
  exact ⟨rfl, rfl⟩
theorem left_nil_w (w : World) : Calls Try.prog 34 #[.pointer none] w fun r w' => r = .returned (.int .i64 0) ∧ w = w' := by
  go_enter Try.func34, Try.ntmps34
  go_wp2
  go_ret
  exact ⟨rfl, rfl⟩
theorem done_nil_w (w : World) : Calls Try.prog 35 #[.pointer none] w fun r w' => r = .returned (.int .i64 1) ∧ w = w' := by
  go_enter Try.func35, Try.ntmps35
  go_wp2
  go_ret
  exact ⟨rfl, rfl⟩

/-- One that failed keeps its fault. -/
theorem small_bad_w (g : Nat) (v : Value) (a : Nat) (e : Int) (m : Int) (w : World) (h : Rdr w g v a e) (h0 : e ≠ 0) :
    Calls Try.prog 37 #[.pointer (some ⟨g, 0, none⟩), .int .u64 m] w fun r w' => r = .returned (.int .u64 0) ∧ w = w' := by
  have Hoff := Lib.hid (off_w g v a e w h)
  have hd : decide (e ≠ 0) = true := by simp [h0]
  clear h0 h
  go_enter Try.func37, Try.ntmps37
  go_wp2_with (go_at_call 60; refine (Hoff.out).mono ?_; rintro e w1 ⟨rfl, rfl⟩)
  go_ret
  exact ⟨rfl, rfl⟩
set_option maxRecDepth 100000 in
theorem rnat_bad_w (g : Nat) (v : Value) (a : Nat) (e : Int) (w : World) (h : Rdr w g v a e) (h0 : e ≠ 0) :
    Calls Try.prog 30 #[.pointer (some ⟨g, 0, none⟩)] w fun r w' => r = .returned (.int .u64 0) ∧ w = w' := by
  have H := Lib.hid (small_bad_w g v a e 18446744073709551615 w h h0)
  clear h0 h
  go_enter Try.func30, Try.ntmps30
  go_wp2_with (go_at_call 37; refine (H.out).mono ?_; rintro e w1 ⟨rfl, rfl⟩)
  go_ret
  exact ⟨rfl, rfl⟩
end Go.Proofs.Ytpbdnndpdidagaa
