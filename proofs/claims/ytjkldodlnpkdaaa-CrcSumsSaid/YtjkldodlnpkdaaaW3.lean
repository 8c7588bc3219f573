/- Walk of More, and of the reference's Steps, Sum and More. -/
import Derived.Test.YtjkldodlnpkdaaaW2
import Derived.Deep.WholeRow
namespace Go.Proofs.Ytjkldodlnpkdaaa
open Go.ChangeShapes Go.WideShapes Go.ChangeAt Go.RowKit
set_option linter.unusedVariables false

theorem not_u32 (x : Nat) (h : x < 2 ^ 32) : bits BinOp.xor IntKind.u32 IntKind.u32.max (x : Int) = ((Crc.ones ^^^ x : Nat) : Int) := xor_u32 Crc.ones x (by decide) h
theorem ones_lt (x : Nat) (h : x < 2 ^ 32) : Crc.ones ^^^ x < 2 ^ 32 := Nat.xor_lt_two_pow (by decide) h
theorem tab_hyps : (Try.prog.info? 42).map (·.size) = some (tabAt 256).size ∧ (tabAt 256).all (·.oneCell') = true :=
  ⟨by rw [tabAt_size]; kernel_rfl, by simp [tabAt, Value.oneCell']⟩
theorem tab_get (j : Nat) (h : j < 256) : (tabAt 256)[j]? = some (.int .u32 (Crc.Sn 8 j : Nat)) := by rw [tabAt_get 256 j h, if_pos h]

set_option maxRecDepth 100000 in
set_option maxHeartbeats 400000 in
theorem more_w (s : Nat) (hs : s < 2 ^ 32) (v : Value) (l : List UInt8) (w : World) (hr : RdB w v l) (hl : l.length ≤ 1000000) :
    Calls Try.prog 15 #[.int .u32 (s : Int), v] w fun e w' => e = .returned (.int .u32 (Crc.more s l : Nat)) ∧ Below w.heap.size w w' := by
  have Hs := Lib.hid tab_hyps
  obtain ⟨p, cap, rfl, hp⟩ := hr
  have Hp := Lib.hid hp
  clear hp
  go_enter Try.func15, Try.ntmps15
  go_wp2_with (first
    | (go_at_call 17; refine (table_w _).mono ?_; rintro e w1 ⟨rfl, hb1⟩)
    | (refine wpList_alloc_zero rfl 42 rfl (tabAt 0) tabAt_zero ?_)
    | (refine wpList_store_row rfl 42 (.tmp 5) (.tmp 9) rfl w1.heap.size (tabAt 256) rfl rfl 42 (tabAt 0) (heap_alloc_new w1 _) Hs.out.1 (by rw [tabAt_size, tabAt_size]) Hs.out.2 ?_; rw [World.setRow_alloc_new]))
  have e0 := not_u32 s hs
  have hx0 := ones_lt s hs
  go_loop [6, 8, 14] (fun x _ i => ∃ k : Nat, k ≤ l.length ∧ i = .int .i64 k ∧ x = .int .u32 (Crc.run (Crc.ones ^^^ s) (l.take k) : Nat)) (fun _ _ i => l.length - (intOf i).toNat)
  case atStart => exact ⟨0, by omega, rfl, by rw [e0]; rfl⟩
  case round =>
    clear e0
    obtain ⟨k, hk, rfl, rfl⟩ := hrel
    have hx := Crc.run_lt (l.take k) _ hx0
    generalize hy : Crc.run (Crc.ones ^^^ s) (l.take k) = y at *
    have Hy := Lib.hid hy
    clear hy
    by_cases hlt : k < l.length
    · obtain ⟨b, off, rfl, hbw, hck0⟩ := Hp.out.at hlt
      have hck := (hb1.cell (p := ⟨b, off + k, none⟩) hbw).trans hck0
      have hbw1 : b < w1.heap.size := Nat.lt_of_lt_of_le hbw hb1.size
      clear hbw hck0
      generalize hc : l.getD k 0 = c at *
      have hc8 := c.toNat_lt
      generalize hj : (y % 256) ^^^ c.toNat = j at *
      have hj8 : j < 256 := by rw [← hj]; exact Nat.xor_lt_two_pow (n := 8) (by omega) hc8
      have hjx : bits .xor .u8 ((y : Int) % 256) (c.toNat : Int) = (j : Int) := by rw [← hj]; exact xor_u8 (y % 256) _ (by omega) hc8
      have htj := tab_get j hj8
      have Hj := Lib.hid hj
      have Hcc := Lib.hid hc
      clear hj hc
      go_wp2
      go_roundw
      case rel =>
        refine ⟨k + 1, by omega, by go_num, ?_⟩
        rw [Crc.run_take_succ _ _ _ hlt, Hy.out, Hcc.out]
        unfold Crc.C
        rw [Hj.out, show ((y : Int) / 256) = ((y / 256 : Nat) : Int) from rfl, xor_u32 _ _ (Crc.Sn_lt _ _ (by omega)) (by omega)]
      case measure => simp [intOf]; omega
    · obtain rfl : k = l.length := by omega
      go_wp2
      go_ret
      refine ⟨?_, (hb1.trans ((Below.refl _ _).alloc hb1.size _))⟩
      rw [not_u32 _ hx]
      have hyy := Hy.out
      rw [List.take_length] at hyy
      rw [← hyy]; rfl

set_option maxHeartbeats 400000 in
theorem steps_w (x : Nat) (hx : x < 2 ^ 32) (v : Value) (l : List UInt8) (w : World) (hr : RdB w v l) (hl : l.length ≤ 1000000) :
    Calls Try.prog 18 #[.int .u32 (x : Int), v] w fun e w' => e = .returned (.int .u32 (Crc.run x l : Nat)) ∧ w = w' := by
  obtain ⟨p, cap, rfl, hp⟩ := hr
  have Hp := Lib.hid hp
  clear hp
  go_enter Try.func18, Try.ntmps18
  go_wp2
  go_loop [0, 5, 6, 7] (fun y i _ _ => ∃ k : Nat, k ≤ 8 * l.length ∧ i = .int .i64 k ∧ y = .int .u32 (Crc.feed l x k : Nat)) (fun _ i _ _ => 8 * l.length - (intOf i).toNat)
  case atStart => exact ⟨0, Nat.zero_le _, rfl, rfl⟩
  case round =>
    obtain ⟨k, hk, rfl, rfl⟩ := hrel
    have hy32 := Crc.feed_lt l x hx k
    generalize hy : Crc.feed l x k = y at *
    have Hy := Lib.hid hy
    clear hy
    by_cases hlt : k < 8 * l.length
    · obtain ⟨b, off, rfl, hbw, hck⟩ := Hp.out.at (k := k / 8) (by omega)
      clear hbw
      have hn : Crc.feed l x (k + 1) = Crc.R y (Crc.bitAt l k) := by rw [← Hy.out]; rfl
      unfold Crc.bitAt at hn
      generalize hc : l.getD (k / 8) 0 = c at *
      have hc8 := c.toNat_lt
      have Hc := Lib.hid hc
      clear hc
      unfold Crc.R at hn
      have Hn := Lib.hid hn
      clear hn
      by_cases hd : y % 2 = c.toNat / 2 ^ (k % 8) % 2
      · have h1 : ((y : Int) % 2 != (c.toNat : Int) / 2 ^ (k % 8) % 2) = false := by
          rw [bne_eq_false_iff_eq]; exact_mod_cast hd
        have Hd := Lib.hid hd
        clear hd
        go_wp2
        go_round
        case rel =>
          refine ⟨k + 1, by omega, by go_num, ?_⟩
          rw [Hn.out, if_neg (by simpa using Hd.out), Nat.xor_zero]; rfl
        case measure => simp [intOf]; omega
      · have h1 : ((y : Int) % 2 != (c.toNat : Int) / 2 ^ (k % 8) % 2) = true := by
          rw [bne_iff_ne]; intro e; exact hd (by exact_mod_cast e)
        have Hd := Lib.hid hd
        clear hd
        go_wp2
        go_round
        case rel =>
          refine ⟨k + 1, by omega, by go_num, ?_⟩
          rw [Hn.out, if_pos Hd.out, show ((y : Int) / 2) = ((y / 2 : Nat) : Int) from rfl, show (3988292384 : Int) = ((Crc.poly : Nat) : Int) from rfl, xor_u32 _ _ (by omega) (by decide)]
        case measure => simp [intOf]; omega
    · go_wp2
      go_ret
      refine ⟨?_, rfl⟩
      have hyy := Hy.out
      rw [show k = 8 * l.length by omega, Crc.feed_run l x _ (Nat.le_refl _), List.take_length] at hyy
      rw [hyy]; rfl

theorem refsum_w (v : Value) (l : List UInt8) (w : World) (hr : RdB w v l) (hl : l.length ≤ 1000000) :
    Calls Try.prog 12 #[v] w fun e w' => e = .returned (.int .u32 (Crc.sum l : Nat)) ∧ w = w' := by
  have hlt := Crc.run_lt l Crc.ones (by decide)
  have hsum : Crc.sum l = Crc.ones ^^^ Crc.run Crc.ones l := rfl
  have hst := steps_w Crc.ones (by decide) v l w hr hl
  rw [hsum]
  generalize Crc.run Crc.ones l = y at *
  clear hsum
  have Hst := Lib.hid hst
  clear hst
  go_enter Try.func12, Try.ntmps12
  go_wp2_with (go_at_call 18; refine (Hst.out).mono ?_; rintro e w1 ⟨rfl, rfl⟩)
  go_ret
  exact ⟨by rw [not_u32 _ hlt]; rfl, rfl⟩

theorem refmore_w (s : Nat) (hs : s < 2 ^ 32) (v : Value) (l : List UInt8) (w : World) (hr : RdB w v l) (hl : l.length ≤ 1000000) :
    Calls Try.prog 16 #[.int .u32 (s : Int), v] w fun e w' => e = .returned (.int .u32 (Crc.more s l : Nat)) ∧ w = w' := by
  have hlt := Crc.run_lt l _ (ones_lt s hs)
  have hst := steps_w _ (ones_lt s hs) v l w hr hl
  have e0 := not_u32 s hs
  have hsum : Crc.more s l = Crc.ones ^^^ Crc.run (Crc.ones ^^^ s) l := rfl
  rw [hsum]
  generalize Crc.ones ^^^ s = z at *
  generalize Crc.run z l = y at *
  clear hsum
  have Hst := Lib.hid hst
  clear hst
  go_enter Try.func16, Try.ntmps16
  go_wp2_with fail
  refine (Hst.out).mono ?_
  rintro e w1 ⟨rfl, rfl⟩
  clear e0
  go_wp2
  go_ret
  exact ⟨by rw [not_u32 _ hlt]; rfl, rfl⟩
end Go.Proofs.Ytjkldodlnpkdaaa
