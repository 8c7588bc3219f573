/- Walk of the table. -/
import Derived.Test.YtjkldodlnpkdaaaRows
import Derived.Test.YtjkldodlnpkdaaaCrc
import Derived.Test.YtjkldodlnpkdaaaOps
import Derived.WalkKit
import Derived.ProofKit
import Derived.OpenShut
import Derived.Lib.Hide
namespace Go.Proofs.Ytjkldodlnpkdaaa
open Go.ChangeShapes Go.WideShapes Go.ChangeAt Go.RowKit
set_option linter.unusedVariables false

/-- The table behind k rounds. -/
def tabAt (k : Nat) : Array Value := ((List.range 256).map fun i => Value.int .u32 ((if i < k then Crc.Sn 8 i else 0 : Nat) : Int)).toArray
theorem tabAt_size (k : Nat) : (tabAt k).size = 256 := by simp [tabAt]
theorem tabAt_zero : ((Try.prog.info? 42).bind (·.zero)).map Value.cells = some (tabAt 0) := by kernel_rfl

theorem tabAt_get (k j : Nat) (h : j < 256) : (tabAt k)[j]? = some (.int .u32 ((if j < k then Crc.Sn 8 j else 0 : Nat) : Int)) := by
  simp [tabAt, h]
theorem tabAt_set (k : Nat) (h : k < 256) : (tabAt k).setIfInBounds k (.int .u32 (Crc.Sn 8 k : Nat)) = tabAt (k + 1) := by
  apply Array.ext_getElem?
  intro j
  rw [Array.getElem?_setIfInBounds]
  by_cases hj : j < 256
  · rw [tabAt_get k j hj, tabAt_get (k + 1) j hj, tabAt_size]
    by_cases e : k = j
    · subst e; simp [h]
    · simp only [e, if_false]
      by_cases h1 : j < k
      · rw [if_pos h1, if_pos (by omega)]
      · rw [if_neg h1, if_neg (by omega)]
  · have hk : ∀ q, (tabAt q)[j]? = none := fun q => Array.getElem?_eq_none (by rw [tabAt_size]; omega)
    rw [hk, hk, if_neg (by omega)]

set_option maxRecDepth 100000 in
set_option maxHeartbeats 400000 in
theorem table_w (w : World) :
    Calls Try.prog 17 #[] w fun e w' => e = .returned (.agg (tabAt 256)) ∧ Below w.heap.size w w' := by
  go_enter Try.func17, Try.ntmps17
  go_wp2_with (refine wpList_alloc_zero rfl 42 rfl (tabAt 0) tabAt_zero ?_)
  go_loopw [3] (fun i wr => ∃ k : Nat, k ≤ 256 ∧ i = .int .i64 k ∧ wr.heap[w.heap.size]? = some (.cells (tabAt k) 42 (0, 0)) ∧ Below w.heap.size w wr) (fun i _ => 256 - (intOf i).toNat)
  case atStart => exact ⟨0, by omega, rfl, heap_alloc_new w _, (Below.refl _ _).alloc (Nat.le_refl _) _⟩
  case round =>
    obtain ⟨k, hk, rfl, hb, hB⟩ := hrel
    by_cases hlt : k < 256
    · have hc : wr.cell? ⟨w.heap.size, k, none⟩ = some (.int .u32 0) := by rw [cell_of_row _ _ _ _ _ _ hb, tabAt_get _ _ hlt]; simp
      have hf : wr.frozen? ⟨w.heap.size, k, none⟩ = false := frozen_of_row _ _ _ _ _ hb
      have Hb := Lib.hid hb
      clear hb
      go_wp2
      go_loop [2, 8] (fun x j => ∃ m : Nat, m ≤ 8 ∧ j = .int .i64 m ∧ x = .int .u32 (Crc.Sn m k : Nat)) (fun _ j => 8 - (intOf j).toNat)
      case atStart => exact ⟨0, by omega, rfl, rfl⟩
      case round =>
        obtain ⟨m, hm, rfl, rfl⟩ := hrel
        have hx := Crc.Sn_lt m k (by omega)
        generalize hy : Crc.Sn m k = y at *
        have Hy := Lib.hid hy
        clear hy
        have ha := and1_u32 y hx
        have Ha := Lib.hid ha
        clear ha
        by_cases hlt2 : m < 8
        · by_cases hodd : y % 2 = 1
          · have h1 : (bits .and .u32 (y : Int) 1 == 1) = true := by rw [Ha.out, hodd]; rfl
            go_wp2
            go_round
            case rel =>
              refine ⟨m + 1, by omega, by go_num, ?_⟩
              rw [Crc.Sn_succ', Hy.out, show ((y : Int) / 2) = ((y / 2 : Nat) : Int) from rfl, show (3988292384 : Int) = ((Crc.poly : Nat) : Int) from rfl, xor_u32 _ _ (by omega) (by decide)]
              unfold Crc.S; rw [if_pos hodd]
            case measure => simp [intOf]; omega
          · have h1 : (bits .and .u32 (y : Int) 1 == 1) = false := by rw [Ha.out, show y % 2 = 0 by omega]; rfl
            go_wp2
            go_round
            case rel =>
              refine ⟨m + 1, by omega, by go_num, ?_⟩
              rw [Crc.Sn_succ', Hy.out]
              unfold Crc.S; rw [if_neg hodd, Nat.xor_zero]; rfl
            case measure => simp [intOf]; omega
        · obtain rfl : m = 8 := by omega
          have h8 : Crc.Sn 8 k = y := Hy.out
          go_wp2
          go_roundw
          case rel =>
            refine ⟨k + 1, by omega, by go_num, ?_, hB.setCell (Nat.le_refl _) _⟩
            rw [heap_setCell_same _ _ _ _ _ _ Hb.out, ← tabAt_set k hlt, h8]
          case measure => simp [intOf]; omega
    · obtain rfl : k = 256 := by omega
      have Hb := Lib.hid hb
      clear hb
      have hsz : (Try.prog.info? 42).map (·.size) = some (tabAt 256).size := by rw [tabAt_size]; kernel_rfl
      have hone : (tabAt 256).all (·.oneCell') = true := by simp [tabAt, Value.oneCell']
      have Hs := Lib.hid hsz; clear hsz
      have Ho := Lib.hid hone; clear hone
      go_wp2_with (first
        | (refine wpList_load_row rfl 42 (.tmp 0) rfl w.heap.size rfl 42 (tabAt 256) (0, 0) _ Hb.out Try.underlying42 rfl Hs.out ?_)
        | (refine wpList_store_row rfl 42 (.tmp 0) (.tmp 23) rfl w.heap.size (tabAt 256) rfl rfl 42 (tabAt 256) Hb.out Hs.out rfl Ho.out ?_))
      exact bodyPost_ret (results_cell_row rfl _ _ w.heap.size 42 (tabAt 256) (0, 0) _ rfl (setRow_heap _ _ _ _ _ _ Hb.out) Try.underlying42 rfl Hs.out) rfl ⟨rfl, Below_setRow hB (Nat.le_refl _) _⟩
end Go.Proofs.Ytjkldodlnpkdaaa
