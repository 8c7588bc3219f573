/- Walk of Sum. -/
import Derived.Test.YtjkldodlnpkdaaaW3
namespace Go.Proofs.Ytjkldodlnpkdaaa
open Go.ChangeShapes Go.WideShapes Go.ChangeAt Go.RowKit
set_option linter.unusedVariables false

set_option maxRecDepth 100000 in
set_option maxHeartbeats 800000 in
theorem sum_w (v : Value) (ls : List (List UInt8)) (w : World) (hr : RdBs w v ls) (hn : ls.length ≤ 1000000) (hl : ∀ i, i < ls.length → (ls.getD i []).length ≤ 1000000) :
    Calls Try.prog 11 #[v] w fun e w' => e = .returned (.int .u32 (Crc.sum ls.flatten : Nat)) ∧ Below w.heap.size w w' := by
  have Hs := Lib.hid tab_hyps
  obtain ⟨q, cap, vs, rfl, hq, hqn, hqr⟩ := hr
  have Hq := Lib.hid hq
  have Hqr := Lib.hid hqr
  have Hqn := Lib.hid hqn
  have Hl := Lib.hid hl
  have hvn : vs.length ≤ 1000000 := by omega
  clear hq hqr hqn hl
  go_enter Try.func11, Try.ntmps11
  go_wp2_with (first
    | (go_at_call 17; refine (table_w _).mono ?_; rintro e w1 ⟨rfl, hb1⟩)
    | (refine wpList_alloc_zero rfl 42 rfl (tabAt 0) tabAt_zero ?_)
    | (refine wpList_store_row rfl 42 (.tmp 3) (.tmp 9) rfl w1.heap.size (tabAt 256) rfl rfl 42 (tabAt 0) (heap_alloc_new w1 _) Hs.out.1 (by rw [tabAt_size, tabAt_size]) Hs.out.2 ?_; rw [World.setRow_alloc_new]))
  have Hb1 := Lib.hid hb1
  have hsz := hb1.size
  clear hb1
  go_loop [4, 6, 8, 12] (fun x _ _ i => ∃ k : Nat, k ≤ vs.length ∧ i = .int .i64 k ∧ x = .int .u32 (Crc.run Crc.ones (ls.take k).flatten : Nat)) (fun _ _ _ i => vs.length - (intOf i).toNat)
  case atStart => exact ⟨0, by omega, rfl, rfl⟩
  case round =>
    obtain ⟨k, hk, rfl, rfl⟩ := hrel
    have hx := Crc.run_lt (ls.take k).flatten Crc.ones (by decide)
    generalize hy : Crc.run Crc.ones (ls.take k).flatten = y at *
    have Hy := Lib.hid hy
    clear hy
    by_cases hlt : k < vs.length
    · obtain ⟨bq, offq, rfl, hbq, hckq0⟩ := Hq.out.at hlt
      have hrk := Hqr.out k hlt
      have hlk := Hl.out k (by have := Hqn.out; omega)
      have hsucc := Crc.run_flat_succ Crc.ones ls k (by have := Hqn.out; omega)
      rw [Hy.out] at hsucc
      generalize ls.getD k [] = l at *
      obtain ⟨p, cap2, hv, hp⟩ := hrk
      rw [hv] at hckq0
      have hckq := (Hb1.out.cell (p := ⟨bq, offq + k, none⟩) hbq).trans hckq0
      have hbq1 : bq < w1.heap.size := by omega
      have Hsucc := Lib.hid hsucc
      have Hp := Lib.hid hp
      clear hckq0 hv hp hbq hsucc
      go_wp2
      go_loop [4, 8, 18] (fun x _ i => ∃ m : Nat, m ≤ l.length ∧ i = .int .i64 m ∧ x = .int .u32 (Crc.run y (l.take m) : Nat)) (fun _ _ i => l.length - (intOf i).toNat)
      case atStart => exact ⟨0, by omega, rfl, rfl⟩
      case round =>
        obtain ⟨m, hm, rfl, rfl⟩ := hrel
        have hz := Crc.run_lt (l.take m) y hx
        generalize hyz : Crc.run y (l.take m) = z at *
        have Hyz := Lib.hid hyz
        clear hyz hckq
        by_cases hlt2 : m < l.length
        · obtain ⟨b, off, rfl, hbw, hck0⟩ := Hp.out.at hlt2
          have hck := (Hb1.out.cell (p := ⟨b, off + m, none⟩) hbw).trans hck0
          have hbw1 : b < w1.heap.size := by omega
          clear hbw hck0
          generalize hc : l.getD m 0 = c at *
          have hc8 := c.toNat_lt
          generalize hj : (z % 256) ^^^ c.toNat = j at *
          have hj8 : j < 256 := by rw [← hj]; exact Nat.xor_lt_two_pow (n := 8) (by omega) hc8
          have hjx : bits .xor .u8 ((z : Int) % 256) (c.toNat : Int) = (j : Int) := by rw [← hj]; exact xor_u8 (z % 256) _ (by omega) hc8
          have htj := tab_get j hj8
          have Hj := Lib.hid hj
          have Hcc := Lib.hid hc
          clear hj hc
          go_wp2
          go_roundw
          case rel =>
            refine ⟨m + 1, by omega, by go_num, ?_⟩
            rw [Crc.run_take_succ _ _ _ hlt2, Hyz.out, Hcc.out]
            unfold Crc.C
            rw [Hj.out, show ((z : Int) / 256) = ((z / 256 : Nat) : Int) from rfl, xor_u32 _ _ (Crc.Sn_lt _ _ (by omega)) (by omega)]
          case measure => simp [intOf]; omega
        · have hml : m = l.length := by omega
          have hyy := Hyz.out
          rw [hml, List.take_length] at hyy
          have hss := Hsucc.out
          rw [hyy] at hss
          have Hss := Lib.hid hss
          clear hss hyy hml
          go_wp2
          go_roundw
          case rel => exact ⟨k + 1, by omega, by go_num, by rw [Hss.out]⟩
          case measure => simp [intOf]; omega
    · go_wp2
      go_ret
      refine ⟨?_, (Hb1.out.trans ((Below.refl _ _).alloc Hb1.out.size _))⟩
      have hyy := Hy.out
      rw [show k = ls.length by have := Hqn.out; omega, List.take_length] at hyy
      have e : Crc.sum ls.flatten = Crc.ones ^^^ y := by rw [← hyy]; rfl
      rw [e, not_u32 _ hx]; rfl
end Go.Proofs.Ytjkldodlnpkdaaa
