/- The data of a contract: the small tests, walked. -/
import Derived.Test.YtoflehlkacofjaaQcW21
import Derived.Deep.MidRow
import Derived.Laws.Rows
namespace Go.Proofs.Ytoflehlkacofjaa
open Go.ChangeShapes Go.WideShapes Go.ChangeAt Go.RowKit
set_option linter.unusedVariables false
namespace Form
def inB (n lo hi : Int) : Bool := decide (lo ≤ n) && decide (n ≤ hi)
def priceB (tick n : Int) : Bool := inB n 1 10000000 && decide (n % tick = 0)
def farB (a most : Int) : Bool := decide (0 ≤ most) && decide (-most ≤ a ∧ a ≤ most)
end Form
theorem within_w (n lo hi : Int) (w : World) : Calls Try.prog 77 #[.int .i64 n, .int .i64 lo, .int .i64 hi] w fun r w' => r = .returned (.bool (Form.inB n lo hi)) ∧ w = w' := by
  unfold Form.inB
  by_cases h1 : lo ≤ n
  · by_cases h2 : n ≤ hi
    · go_enter Try.func77, Try.ntmps77
      go_wp2
      go_ret
      exact ⟨by first | (simp; done) | (simp; intros; omega) | (simp; omega), rfl⟩
    · go_enter Try.func77, Try.ntmps77
      go_wp2
      go_ret
      exact ⟨by first | (simp; done) | (simp; intros; omega) | (simp; omega), rfl⟩
  · go_enter Try.func77, Try.ntmps77
    go_wp2
    go_ret
    exact ⟨by first | (simp; done) | (simp; intros; omega) | (simp; omega), rfl⟩
theorem among_w (n lo hi : Int) (w : World) : Calls Try.prog 79 #[.int .i64 n, .int .i64 lo, .int .i64 hi] w fun r w' => r = .returned (.bool (Form.inB n lo hi)) ∧ w = w' := by
  unfold Form.inB
  by_cases h1 : lo ≤ n
  · by_cases h2 : n ≤ hi
    · go_enter Try.func79, Try.ntmps79
      go_wp2
      go_ret
      exact ⟨by first | (simp; done) | (simp; intros; omega) | (simp; omega), rfl⟩
    · go_enter Try.func79, Try.ntmps79
      go_wp2
      go_ret
      exact ⟨by first | (simp; done) | (simp; intros; omega) | (simp; omega), rfl⟩
  · go_enter Try.func79, Try.ntmps79
    go_wp2
    go_ret
    exact ⟨by first | (simp; done) | (simp; intros; omega) | (simp; omega), rfl⟩

theorem price_w (tick n : Int) (w : World) (ht : 1 ≤ tick) : Calls Try.prog 78 #[.int .i64 tick, .int .i64 n] w fun r w' => r = .returned (.bool (Form.priceB tick n)) ∧ w = w' := by
  obtain ⟨q, hq⟩ : ∃ q, Form.inB n 1 10000000 = q := ⟨_, rfl⟩
  have H := Lib.hid (within_w n 1 10000000)
  rw [hq] at H
  have hp : Form.priceB tick n = (q && decide (n % tick = 0)) := by unfold Form.priceB; rw [hq]
  rw [hp]
  cases q with
  | false =>
    clear hq hp
    go_enter Try.func78, Try.ntmps78
    go_wp2_with (go_at_call 77; refine (H.out _).mono ?_; rintro r w1 ⟨rfl, rfl⟩)
    go_ret
    exact ⟨rfl, rfl⟩
  | true =>
    have hn : 1 ≤ n := by unfold Form.inB at hq; simp at hq; omega
    obtain ⟨z, hz⟩ : ∃ z, n % tick = z := ⟨_, rfl⟩
    obtain ⟨zb, hzb⟩ : ∃ zb, decide (z = 0) = zb := ⟨_, rfl⟩
    have hz2 : (z == 0) = zb := by rw [← hzb, Bool.eq_iff_iff]; simp
    rw [hz, hzb]
    clear hq hp hzb
    go_enter Try.func78, Try.ntmps78
    go_wp2_with (go_at_call 77; refine (H.out _).mono ?_; rintro r w1 ⟨rfl, rfl⟩)
    go_ret
    exact ⟨rfl, rfl⟩

theorem refprice_w (tick n : Int) (w : World) (ht : 1 ≤ tick) (hb : n ≤ 9223372036854775807) : Calls Try.prog 80 #[.int .i64 tick, .int .i64 n] w fun r w' => r = .returned (.bool (Form.priceB tick n)) ∧ w = w' := by
  unfold Form.priceB Form.inB
  by_cases h1 : 1 ≤ n
  · by_cases h2 : n ≤ 10000000
    · obtain ⟨q, hq⟩ : ∃ q, n / tick = q := ⟨_, rfl⟩
      obtain ⟨z, hz⟩ : ∃ z, q * tick = z := ⟨_, rfl⟩
      have hzz : n % tick = 0 ↔ z = n := by
        have := Int.emod_add_mul_ediv n tick
        rw [hq] at this
        rw [← hz, Int.mul_comm q]
        omega
      have hqb : 0 ≤ z ∧ z ≤ n := by
        have h3 := Int.emod_add_mul_ediv n tick
        have h4 := Int.emod_nonneg n (show tick ≠ 0 by omega)
        have h5 : 0 ≤ n / tick := Int.ediv_nonneg (by omega) (by omega)
        rw [hq] at h3 h5
        rw [← hz, Int.mul_comm q]
        refine ⟨Int.mul_nonneg (by omega) h5, by omega⟩
      have hw : IntKind.i64.wrap z = z := IntWalk.i64_in _ (by omega)
      obtain ⟨zb, hzb⟩ : ∃ zb, decide (z = n) = zb := ⟨_, rfl⟩
      have hz2 : (z == n) = zb := by rw [← hzb, Bool.eq_iff_iff]; simp
      have e : decide (n % tick = 0) = zb := by rw [← hzb]; exact decide_eq_decide.2 hzz
      rw [e]
      have Hn := Lib.hid (And.intro h1 h2)
      clear hzz hzb e
      go_enter Try.func80, Try.ntmps80
      go_wp2
      go_ret
      exact ⟨by first | (simp; done) | (simp; intros; omega) | (simp; omega), rfl⟩
    · go_enter Try.func80, Try.ntmps80
      go_wp2
      go_ret
      exact ⟨by first | (simp; done) | (simp; intros; omega) | (simp; omega), rfl⟩
  · go_enter Try.func80, Try.ntmps80
    go_wp2
    go_ret
    exact ⟨by first | (simp; done) | (simp; intros; omega) | (simp; omega), rfl⟩

theorem size_w (a : Int) (w : World) (h : -9223372036854775808 ≤ a ∧ a ≤ 9223372036854775807) : Calls Try.prog 83 #[.int .i64 a] w fun r w' => r = .returned (.tuple #[.int .u64 (a.natAbs : Nat), .bool (decide (a < 0))]) ∧ w = w' := by
  obtain ⟨m, hm⟩ : ∃ m : Nat, a.natAbs = m := ⟨_, rfl⟩
  rw [hm]
  by_cases h0 : a < 0
  · have e1 : IntKind.u64.wrap a = a + 18446744073709551616 := by rw [IntKind.wrap_u64]; omega
    have e2 : IntKind.u64.wrap (-(a + 18446744073709551616)) = (m : Int) := by rw [IntKind.wrap_u64]; omega
    clear hm
    go_enter Try.func83, Try.ntmps83
    go_wp2
    go_ret2
    exact ⟨by first | (simp; done) | (simp; intros; omega) | (simp; omega), rfl⟩
  · have e1 : IntKind.u64.wrap a = (m : Int) := by rw [IntKind.wrap_u64]; omega
    clear hm
    go_enter Try.func83, Try.ntmps83
    go_wp2
    go_ret2
    exact ⟨by first | (simp; done) | (simp; intros; omega) | (simp; omega), rfl⟩

theorem far_w2 (a most : Int) (w : World) (h : -9223372036854775808 ≤ a ∧ a ≤ 9223372036854775807) (hm : -9223372036854775808 ≤ most ∧ most ≤ 9223372036854775807) : Calls Try.prog 76 #[.int .i64 a, .int .i64 most] w fun r w' => r = .returned (.bool (Form.farB a most)) ∧ w = w' := by
  have H := Lib.hid (size_w a w h)
  unfold Form.farB
  by_cases h0 : 0 ≤ most
  · obtain ⟨m, rfl⟩ : ∃ m : Nat, most = (m : Int) := ⟨most.toNat, by omega⟩
    have e1 : IntKind.u64.wrap (m : Int) = (m : Int) := IntWalk.u64_in _ (by omega)
    obtain ⟨k, hk⟩ : ∃ k, a.natAbs = k := ⟨_, rfl⟩
    rw [hk] at H
    by_cases h1 : k ≤ m
    · have e2 : decide (-(m : Int) ≤ a ∧ a ≤ (m : Int)) = true := by simp; omega
      rw [e2]
      clear hk e2
      go_enter Try.func76, Try.ntmps76
      go_wp2_with (go_at_call 83; refine (H.out).mono ?_; rintro r w1 ⟨rfl, rfl⟩)
      go_ret
      exact ⟨by first | (simp; done) | (simp; intros; omega) | (simp; omega), rfl⟩
    · have e2 : decide (-(m : Int) ≤ a ∧ a ≤ (m : Int)) = false := by simp; omega
      rw [e2]
      clear hk e2
      go_enter Try.func76, Try.ntmps76
      go_wp2_with (go_at_call 83; refine (H.out).mono ?_; rintro r w1 ⟨rfl, rfl⟩)
      go_ret
      exact ⟨by first | (simp; done) | (simp; intros; omega) | (simp; omega), rfl⟩
  · go_enter Try.func76, Try.ntmps76
    go_wp2_with (go_at_call 83; refine (H.out).mono ?_; rintro r w1 ⟨rfl, rfl⟩)
    go_ret
    exact ⟨by first | (simp; done) | (simp; intros; omega) | (simp; omega), rfl⟩
end Go.Proofs.Ytoflehlkacofjaa
