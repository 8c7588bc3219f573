/- Walk of the law WireOrder. -/
import Derived.Test.YtpbdnndpdidagaaW5
namespace Go.Proofs.Ytpbdnndpdidagaa
open Go.ChangeShapes Go.WideShapes Go.ChangeAt Go.RowKit
set_option linter.unusedVariables false

theorem far_w (i : Int) (w : World) (h1 : -9223372036854775808 ≤ i) (h2 : i ≤ 9223372036854775807) :
    Calls Try.prog 15 #[.int .i64 i] w fun e w' => e = .returned (.int .u64 (Form.far i : Nat)) ∧ w' = w := by
  obtain ⟨n, hn⟩ : ∃ n, Form.far i = n := ⟨_, rfl⟩
  rw [hn]
  by_cases h0 : i < 0
  · have e3 : ((n : Nat) : Int) = -(i + 1) := by rw [← hn]; unfold Form.far; rw [if_neg (by omega)]; omega
    have e4 : IntKind.u64.wrap (-(i + 1)) = (n : Int) := by rw [← e3]; exact IntWalk.u64_in _ (by omega)
    clear hn e3
    go_enter Try.func15, Try.ntmps15
    go_wp2
    go_ret
    exact ⟨rfl, rfl⟩
  · have e3 : ((n : Nat) : Int) = i := by rw [← hn]; unfold Form.far; rw [if_pos (by omega)]; omega
    have e4 : IntKind.u64.wrap i = (n : Int) := by rw [← e3]; exact IntWalk.u64_in _ (by omega)
    clear hn e3
    go_enter Try.func15, Try.ntmps15
    go_wp2
    go_ret
    exact ⟨rfl, rfl⟩

set_option maxRecDepth 100000 in
set_option maxHeartbeats 800000 in
theorem order_w (n m : Nat) (i j : Int) (w : World) (hn : n < 2 ^ 64) (hm : m < 2 ^ 64) (hi : -9223372036854775808 ≤ i ∧ i ≤ 9223372036854775807) (hj : -9223372036854775808 ≤ j ∧ j ≤ 9223372036854775807) :
    Calls Try.prog 3 #[.int .u64 (n : Int), .int .u64 (m : Int), .int .i64 i, .int .i64 j] w fun e w' => e = .returned (.bool true) ∧ Below w.heap.size w w' := by
  have Hn := Lib.hid (Form.nat_len10 hn)
  have Hi := Lib.hid (Form.nat_len10 (Form.fold_lt hi.1 hi.2))
  have Hmono := Lib.hid (Form.nat_mono m n)
  have Himono := Lib.hid (@Form.int_mono i j)
  have Hpn := Lib.hid (Form.nat_pos n)
  have Hpi := Lib.hid (Form.nat_pos (Form.fold i))
  have H5 := Lib.hid (fun w => far_w i w hi.1 hi.2)
  have H6 := Lib.hid (fun w => far_w j w hj.1 hj.2)
  have HB := Lib.hid (Below.refl w.heap.size w)
  have Hn64 := Lib.hid hn
  have Hm64 := Lib.hid hm
  have Hi64 := Lib.hid hi
  have Hj64 := Lib.hid hj
  clear hi hj hn hm
  generalize hln : (Form.nat n).length = ln at *
  generalize hlm : (Form.nat m).length = lm at *
  generalize hli : (Form.nat (Form.fold i)).length = li at *
  generalize hlj : (Form.nat (Form.fold j)).length = lj at *
  generalize hfi : Form.far i = fi at *
  generalize hfj : Form.far j = fj at *
  have Ln := Lib.hid hln
  have Lm := Lib.hid hlm
  have Li := Lib.hid hli
  have Lj := Lib.hid hlj
  have t1 : (1 : Int) ≤ (ln : Int) := by have := Hpn.out; omega
  have t2 : (ln : Int) ≤ 10 := by have := Hn.out; omega
  have t3 : (1 : Int) ≤ (li : Int) := by have := Hpi.out; omega
  have t4 : (li : Int) ≤ 10 := by have := Hi.out; omega
  clear hln hlm hli hlj hfi hfj Hn Hpn Hi Hpi
  go_enter Try.func3, Try.ntmps3
  go_wp2_with (first
    | (go_at_call 16; (first
        | (with_reducible refine (nat_w w.heap.size (.slice none 0 0) [] n _ (OB.nil _ _ _) Hn64.out (by decide) HB.out.size).mono ?_; rintro e w1 ⟨p, k, c, rfl, hk, ho, hB⟩; rw [List.nil_append, Ln.out] at hk)
        | (with_reducible refine (nat_w w.heap.size (.slice none 0 0) [] m _ (OB.nil _ _ _) Hm64.out (by decide) HB.out.size).mono ?_; rintro e w1 ⟨p, k, c, rfl, hk, ho, hB⟩; rw [List.nil_append, Lm.out] at hk)); subst k; have HB' := Lib.hid (HB.out.trans hB); clear ho hB HB; rename _ => HB)
    | (go_at_call 17; (first
        | (with_reducible refine (int_w w.heap.size (.slice none 0 0) [] i _ (OB.nil _ _ _) Hi64.out.1 Hi64.out.2 (by decide) HB.out.size).mono ?_; rintro e w1 ⟨p, k, c, rfl, hk, ho, hB⟩; rw [List.nil_append, Li.out] at hk)
        | (with_reducible refine (int_w w.heap.size (.slice none 0 0) [] j _ (OB.nil _ _ _) Hj64.out.1 Hj64.out.2 (by decide) HB.out.size).mono ?_; rintro e w1 ⟨p, k, c, rfl, hk, ho, hB⟩; rw [List.nil_append, Lj.out] at hk)); subst k; have HB' := Lib.hid (HB.out.trans hB); clear ho hB HB; rename _ => HB)
    | (go_at_call 15; (first
        | (with_reducible refine (H5.out _).mono ?_)
        | (with_reducible refine (H6.out _).mono ?_)); rintro e w1 ⟨rfl, rfl⟩)
    | (go_at_call 18; with_reducible refine (known_w _).mono ?_; rintro e w1 ⟨rfl, hB⟩; have HB' := Lib.hid (HB.out.trans (hB.mono HB.out.size)); clear hB HB; rename _ => HB))
  all_goals first
    | (have h1 := Hmono.out; have h2 := Himono.out; exfalso; omega)
    | (go_ret; refine ⟨?_, HB.out⟩; first
        | rfl
        | (show Ending.returned (Value.bool _) = Ending.returned (Value.bool true)
           congr 2
           have h1 := Hmono.out
           have h2 := Himono.out
           simp
           omega))
end Go.Proofs.Ytpbdnndpdidagaa
