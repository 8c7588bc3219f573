/- Walk of the law on more and join. -/
import Derived.Test.YtjkldodlnpkdaaaW8
namespace Go.Proofs.Ytjkldodlnpkdaaa
open Go.ChangeShapes Go.WideShapes Go.ChangeAt Go.RowKit
set_option linter.unusedVariables false

theorem refjoin_neg (a b n : Int) (h : n < 0) (w : World) : Calls Try.prog 14 #[.int .u32 a, .int .u32 b, .int .i64 n] w fun e w' => e = .returned (.tuple #[.int .u32 0, .int .i64 2]) ∧ w = w' := by
  go_enter Try.func14, Try.ntmps14
  go_wp2
  go_ret2
  exact ⟨rfl, rfl⟩

set_option maxHeartbeats 400000 in
theorem refjoin_w (a b n : Nat) (ha : a < 2 ^ 32) (hb : b < 2 ^ 32) (hn : n ≤ 1000000) (w : World) :
    Calls Try.prog 14 #[.int .u32 (a : Int), .int .u32 (b : Int), .int .i64 (n : Int)] w fun e w' => e = .returned (.tuple #[.int .u32 (Crc.join a b n : Nat), .int .i64 0]) ∧ Below w.heap.size w w' := by
  have hx := Crc.Sn_lt (8 * n) a ha
  have hj : Crc.join a b n = Crc.Sn (8 * n) a ^^^ b := rfl
  have hz := Crc.run_zeros a n
  rw [hj]
  clear hj
  generalize Crc.Sn (8 * n) a = z at *
  have Hz := Lib.hid hz
  have hzb := xor_u32 z b hx hb
  have Hzb := Lib.hid hzb
  clear hz hzb
  go_enter Try.func14, Try.ntmps14
  go_wp2_with (first
    | (refine wpList_make_bytes rfl (.tmp 11) (.tmp 11) 23 rfl hel n rfl rfl (by omega) ?_; intro w1 ho1 hb1 hl1; have Ho1 := Lib.hid ho1; have Hb1 := Lib.hid hb1; clear ho1 hb1)
    | (go_at_call 18; (with_reducible refine (steps_w a ha _ _ w1 Ho1.out.rd (by simp; omega)).mono ?_); rintro e w2 ⟨rfl, rfl⟩; rw [Hz.out]))
  go_ret2
  exact ⟨by rw [← Hzb.out]; rfl, Hb1.out⟩

set_option maxHeartbeats 800000 in
theorem mores_w (a b : Nat) (ha : a < 2 ^ 32) (hb : b < 2 ^ 32) (v : Value) (l : List UInt8) (n : Int) (w : World) (hr : RdB w v l) (hn : -9223372036854775808 ≤ n ∧ n ≤ 9223372036854775807) :
    Calls Try.prog 7 #[.int .u32 (a : Int), .int .u32 (b : Int), v, .int .i64 n] w fun e w' => e = .returned (.bool true) ∧ Below w.heap.size w w' := by
  have hle := hr.le
  have hr0 := hr
  have HR := Lib.hid hr0
  clear hr0
  obtain ⟨p, cp, rfl, hp⟩ := hr
  clear hp
  by_cases hbig : l.length ≤ 20000
  · by_cases hbig2 : n ≤ 3000
    · have hm := Crc.more_lt a l ha
      have hm2 := more_w a ha (.slice p l.length cp) l
      have hm3 := refmore_w a ha (.slice p l.length cp) l
      generalize Crc.more a l = m at *
      have Hm2 := Lib.hid hm2
      have Hm3 := Lib.hid hm3
      clear hm2 hm3
      by_cases hneg : n < 0
      · go_enter Try.func7, Try.ntmps7
        go_wp2_with (first
          | (go_at_call 13; (with_reducible refine (join_neg a b n hneg w).mono ?_); rintro e w1 ⟨rfl, rfl⟩)
          | (go_at_call 14; (with_reducible refine (refjoin_neg a b n hneg w).mono ?_); rintro e w2 ⟨rfl, rfl⟩)
          | (go_at_call 15; (with_reducible refine (Hm2.out w HR.out (by omega)).mono ?_); rintro e w3 ⟨rfl, hb3⟩; have Hg3 := Lib.hid hb3; clear hb3)
          | (go_at_call 16; (with_reducible refine (Hm3.out w3 (HR.out.below Hg3.out) (by omega)).mono ?_); rintro e w4 ⟨rfl, rfl⟩)
          | (go_at_call 10; (with_reducible refine (known_w w3).mono ?_); rintro e w5 ⟨rfl, hb5⟩; have Hg5 := Lib.hid (Hg3.out.trans (hb5.mono Hg3.out.size)); clear hb5))
        go_ret
        exact ⟨rfl, Hg5.out⟩
      · obtain ⟨k, rfl⟩ := Int.eq_ofNat_of_zero_le (by omega : 0 ≤ n)
        have hj := join_w a b k ha hb (by omega)
        have hj2 := refjoin_w a b k ha hb (by omega)
        have hjl := Crc.join_lt a b k ha hb
        generalize Crc.join a b k = j at *
        have Hj := Lib.hid hj
        have Hj2 := Lib.hid hj2
        clear hj hj2
        go_enter Try.func7, Try.ntmps7
        go_wp2_with (first
          | (go_at_call 13; (with_reducible refine (Hj.out w).mono ?_); rintro e w1 ⟨rfl, hb1⟩; have Hg1 := Lib.hid hb1; clear hb1)
          | (go_at_call 14; (with_reducible refine (Hj2.out w1).mono ?_); rintro e w2 ⟨rfl, hb2⟩; have Hg2 := Lib.hid (Hg1.out.trans (hb2.mono Hg1.out.size)); clear hb2)
          | (go_at_call 15; (with_reducible refine (Hm2.out w2 (HR.out.below Hg2.out) (by omega)).mono ?_); rintro e w3 ⟨rfl, hb3⟩; have Hg3 := Lib.hid (Hg2.out.trans (hb3.mono Hg2.out.size)); clear hb3)
          | (go_at_call 16; (with_reducible refine (Hm3.out w3 (HR.out.below Hg3.out) (by omega)).mono ?_); rintro e w4 ⟨rfl, rfl⟩)
          | (go_at_call 10; (with_reducible refine (known_w w3).mono ?_); rintro e w5 ⟨rfl, hb5⟩; have Hg5 := Lib.hid (Hg3.out.trans (hb5.mono Hg3.out.size)); clear hb5))
        go_ret
        exact ⟨rfl, Hg5.out⟩
    · go_enter Try.func7, Try.ntmps7
      go_wp2_with (go_at_call 10; refine (known_w _).mono ?_; rintro e w1 ⟨rfl, hb1⟩)
      go_ret
      exact ⟨rfl, hb1⟩
  · go_enter Try.func7, Try.ntmps7
    go_wp2_with (go_at_call 10; refine (known_w _).mono ?_; rintro e w1 ⟨rfl, hb1⟩)
    go_ret
    exact ⟨rfl, hb1⟩
end Go.Proofs.Ytjkldodlnpkdaaa
