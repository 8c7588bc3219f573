/- Walk of the matrix: of, twice, Join. -/
import Derived.Test.YtjkldodlnpkdaaaW6
namespace Go.Proofs.Ytjkldodlnpkdaaa
open Go.ChangeShapes Go.WideShapes Go.ChangeAt Go.RowKit
set_option linter.unusedVariables false

/-- What becomes of each bit, by k steps. -/
def col (k i : Nat) : Nat := Crc.Sn k (2 ^ i)
/-- The matrix of twice as many steps, behind r rounds. -/
def matAt (k r : Nat) : Array Value := ((List.range 32).map fun i => Value.int .u32 ((if i < r then col k i else 0 : Nat) : Int)).toArray
theorem matAt_size (k r : Nat) : (matAt k r).size = 32 := by simp [matAt]
theorem matAt_get (k r j : Nat) (h : j < 32) : (matAt k r)[j]? = some (.int .u32 ((if j < r then col k j else 0 : Nat) : Int)) := by simp [matAt, h]
theorem matAt_set (k r : Nat) (h : r < 32) : (matAt k r).setIfInBounds r (.int .u32 (col k r : Nat)) = matAt k (r + 1) := by
  apply Array.ext_getElem?
  intro j
  rw [Array.getElem?_setIfInBounds]
  by_cases hj : j < 32
  · rw [matAt_get k r j hj, matAt_get k (r + 1) j hj, matAt_size]
    by_cases e : r = j
    · subst e; simp [h]
    · simp only [e, if_false]
      by_cases h1 : j < r
      · rw [if_pos h1, if_pos (by omega)]
      · rw [if_neg h1, if_neg (by omega)]
  · have hk : ∀ q, (matAt k q)[j]? = none := fun q => Array.getElem?_eq_none (by rw [matAt_size]; omega)
    rw [hk, hk, if_neg (by omega)]
theorem col_lt (k i : Nat) (h : i < 32) : col k i < 2 ^ 32 := Crc.Sn_lt _ _ (Nat.pow_lt_pow_right (by decide) h)

set_option maxRecDepth 100000 in
set_option maxHeartbeats 400000 in
theorem of_w (b k x : Nat) (hx : x < 2 ^ 32) (t : TypeId) (w : World) (hb : w.heap[b]? = some (.cells (matAt k 32) t (0, 0))) :
    Calls Try.prog 20 #[.pointer (some ⟨b, 0, none⟩), .int .u32 (x : Int)] w fun e w' => e = .returned (.int .u32 (Crc.Sn k x : Nat)) ∧ w = w' := by
  have Hb := Lib.hid hb
  clear hb
  go_enter Try.func20, Try.ntmps20
  go_wp2
  go_loop [4, 5, 6] (fun y _ i => ∃ r : Nat, r ≤ 32 ∧ i = .int .i64 r ∧ y = .int .u32 (Crc.Sn k (x % 2 ^ r) : Nat)) (fun _ _ i => 32 - (intOf i).toNat)
  case atStart => exact ⟨0, by omega, rfl, by simp [Nat.mod_one, Crc.Sn_zero]⟩
  case round =>
    obtain ⟨r, hr, rfl, rfl⟩ := hrel
    have hy := Crc.Sn_lt k (x % 2 ^ r) (Nat.lt_of_le_of_lt (Nat.mod_le _ _) hx)
    have hs := Crc.of_succ k x r
    generalize hz : Crc.Sn k (x % 2 ^ r) = z at *
    have Hz := Lib.hid hz
    have Hs := Lib.hid hs
    clear hz hs
    by_cases hlt : r < 32
    · have hc : w.cell? ⟨b, r, none⟩ = some (.int .u32 (col k r : Nat)) := by rw [cell_of_row _ _ _ _ _ _ Hb.out, matAt_get _ _ _ hlt, if_pos hlt]
      have hcl := col_lt k r hlt
      have hcs := Hs.out
      rw [show Crc.Sn k (2 ^ r) = col k r from rfl] at hcs
      have Hcs := Lib.hid hcs
      clear hcs
      generalize col k r = c at *
      have hd : bits .and .u32 ((x : Int) / 2 ^ r) 1 = ((x / 2 ^ r % 2 : Nat) : Int) := by
        have := and1_u32 (x / 2 ^ r) (Nat.lt_of_le_of_lt (Nat.div_le_self _ _) hx)
        rw [← this]; congr 1
      have Hd := Lib.hid hd
      clear hd
      by_cases hodd : x / 2 ^ r % 2 = 1
      · have h1 : (bits .and .u32 ((x : Int) / 2 ^ r) 1 == 1) = true := by rw [Hd.out, hodd]; rfl
        have Hodd := Lib.hid hodd
        clear hodd
        go_wp2
        go_round
        case rel =>
          refine ⟨r + 1, by omega, by go_num, ?_⟩
          rw [Hcs.out, if_pos Hodd.out, xor_u32 _ _ hy hcl]
        case measure => simp [intOf]; omega
      · have h1 : (bits .and .u32 ((x : Int) / 2 ^ r) 1 == 1) = false := by rw [Hd.out, show x / 2 ^ r % 2 = 0 by omega]; rfl
        have Hodd := Lib.hid hodd
        clear hodd
        go_wp2
        go_round
        case rel =>
          refine ⟨r + 1, by omega, by go_num, ?_⟩
          rw [Hcs.out, if_neg Hodd.out]
        case measure => simp [intOf]; omega
    · go_wp2
      go_ret
      refine ⟨?_, rfl⟩
      have h2 := Hz.out
      rw [show r = 32 by omega, Nat.mod_eq_of_lt hx] at h2
      rw [h2]; rfl

theorem mat_hyps : (Try.prog.info? 45).map (·.size) = some 32 := by kernel_rfl
theorem mat_one (k r : Nat) : (matAt k r).all (·.oneCell') = true := by simp [matAt, Value.oneCell']
theorem mat_zero0 : ((Try.prog.info? 45).bind (·.zero)).map Value.cells = some (matAt 0 0) := by kernel_rfl
theorem mat_zero (k : Nat) : ((Try.prog.info? 45).bind (·.zero)).map Value.cells = some (matAt k 0) := by
  have h : matAt k 0 = matAt 0 0 := by simp [matAt]
  rw [h]; exact mat_zero0
theorem col_twice (k i : Nat) : Crc.Sn k (col k i) = col (k + k) i := by unfold col; rw [Crc.Sn_add]

set_option maxRecDepth 100000 in
set_option maxHeartbeats 400000 in
theorem twice_w (b k : Nat) (t : TypeId) (w : World) (hb : w.heap[b]? = some (.cells (matAt k 32) t (0, 0))) :
    Calls Try.prog 19 #[.pointer (some ⟨b, 0, none⟩)] w fun e w' => e = .returned (.agg (matAt (k + k) 32)) ∧ Below w.heap.size w w' := by
  have Hb := Lib.hid hb
  have hbl : b < w.heap.size := (Array.getElem?_eq_some_iff.1 hb).1
  clear hb
  have hs : (Try.prog.info? 45).map (·.size) = some (matAt (k + k) 32).size := by rw [matAt_size]; exact mat_hyps
  have ho := mat_one (k + k) 32
  have Hs := Lib.hid hs
  have Ho := Lib.hid ho
  clear hs ho
  go_enter Try.func19, Try.ntmps19
  go_wp2_with (refine wpList_alloc_zero rfl 45 rfl (matAt (k + k) 0) (mat_zero _) ?_)
  go_loopw [3, 4] (fun _ i wr => ∃ r : Nat, r ≤ 32 ∧ i = .int .i64 r ∧ wr.heap[w.heap.size]? = some (.cells (matAt (k + k) r) 45 (0, 0)) ∧ Below w.heap.size w wr) (fun _ i _ => 32 - (intOf i).toNat)
  case atStart => exact ⟨0, by omega, rfl, heap_alloc_new w _, (Below.refl _ _).alloc (Nat.le_refl _) _⟩
  case round =>
    obtain ⟨r, hr, rfl, hm, hB⟩ := hrel
    have Hm := Lib.hid hm
    have HB := Lib.hid hB
    clear hm hB
    by_cases hlt : r < 32
    · have hbr : wr.heap[b]? = some (.cells (matAt k 32) t (0, 0)) := (HB.out.block b hbl).trans Hb.out
      have Hbr := Lib.hid hbr
      clear hbr
      have hc : wr.cell? ⟨b, r, none⟩ = some (.int .u32 (col k r : Nat)) := by rw [cell_of_row _ _ _ _ _ _ Hbr.out, matAt_get _ _ _ hlt, if_pos hlt]
      have hc2 : wr.cell? ⟨w.heap.size, r, none⟩ = some (.int .u32 0) := by rw [cell_of_row _ _ _ _ _ _ Hm.out, matAt_get _ _ _ hlt, if_neg (by omega)]; rfl
      have hf : wr.frozen? ⟨w.heap.size, r, none⟩ = false := frozen_of_row _ _ _ _ _ Hm.out
      have hcl := col_lt k r hlt
      have ht := col_twice k r
      have Ht := Lib.hid ht
      clear ht
      generalize col k r = c at *
      have hcc := of_w b k c hcl t wr Hbr.out
      rw [Ht.out] at hcc
      have Hcc := Lib.hid hcc
      clear hcc
      generalize hq : col (k + k) r = q at *
      have Hq := Lib.hid hq
      clear hq
      go_wp2_with (go_at_call 20; refine (Hcc.out).mono ?_; rintro e w1 ⟨rfl, rfl⟩)
      go_roundw
      case rel =>
        refine ⟨r + 1, by omega, by go_num, ?_, HB.out.setCell (Nat.le_refl _) _⟩
        rw [heap_setCell_same _ _ _ _ _ _ Hm.out, ← matAt_set _ r hlt, Hq.out]
      case measure => simp [intOf]; omega
    · obtain rfl : r = 32 := by omega
      go_wp2_with (first
        | (refine wpList_load_row rfl 45 (.tmp 2) rfl w.heap.size rfl 45 (matAt (k + k) 32) (0, 0) _ Hm.out Try.underlying45 rfl Hs.out ?_)
        | (refine wpList_store_row rfl 45 (.tmp 2) (.tmp 17) rfl w.heap.size (matAt (k + k) 32) rfl rfl 45 (matAt (k + k) 32) Hm.out Hs.out rfl Ho.out ?_))
      exact bodyPost_ret (results_cell_row rfl _ _ w.heap.size 45 (matAt (k + k) 32) (0, 0) _ rfl (setRow_heap _ _ _ _ _ _ Hm.out) Try.underlying45 rfl Hs.out) rfl ⟨rfl, Below_setRow HB.out (Nat.le_refl _) _⟩

theorem n_one (n : Nat) (h : n < 2 ^ 63) : bits .and .i64 (n : Int) 1 = ((n % 2 : Nat) : Int) := by
  have e : bits .and .i64 (n : Int) 1 = IntKind.i64.wrap (((BitVec.ofInt 64 n &&& BitVec.ofInt 64 ((1 : Nat) : Int) : BitVec 64).toNat : Nat) : Int) := rfl
  rw [e, BitVec.toNat_and, BitVec.ofInt_natCast, BitVec.ofInt_natCast, BitVec.toNat_ofNat, BitVec.toNat_ofNat, Nat.mod_eq_of_lt (by omega : n < 2 ^ 64), Nat.mod_eq_of_lt (by decide), Nat.and_one_is_mod]
  rw [IntKind.wrap_i64]; omega

theorem join_neg (a b n : Int) (h : n < 0) (w : World) : Calls Try.prog 13 #[.int .u32 a, .int .u32 b, .int .i64 n] w fun e w' => e = .returned (.tuple #[.int .u32 0, .int .i64 2]) ∧ w = w' := by
  go_enter Try.func13, Try.ntmps13
  go_wp2
  go_ret2
  exact ⟨rfl, rfl⟩

set_option maxRecDepth 100000 in
set_option maxHeartbeats 800000 in
theorem join_w (a b n : Nat) (ha : a < 2 ^ 32) (hb : b < 2 ^ 32) (hn : n < 2 ^ 62) (w : World) :
    Calls Try.prog 13 #[.int .u32 (a : Int), .int .u32 (b : Int), .int .i64 (n : Int)] w fun e w' => e = .returned (.tuple #[.int .u32 (Crc.join a b n : Nat), .int .i64 0]) ∧ Below w.heap.size w w' := by
  go_enter Try.func13, Try.ntmps13
  go_wp2_with (refine wpList_alloc_zero rfl 45 rfl (matAt 1 0) (mat_zero _) ?_)
  go_loopw [9] (fun i wr => ∃ r : Nat, 1 ≤ r ∧ r ≤ 32 ∧ i = .int .i64 r ∧ wr.heap[w.heap.size]? = some (.cells (matAt 1 r) 45 (0, 0)) ∧ Below w.heap.size w wr) (fun i _ => 32 - (intOf i).toNat)
  case atStart =>
    refine ⟨1, by omega, by omega, rfl, ?_, (Below.refl _ _).alloc (Nat.le_refl _) _⟩
    rw [heap_alloc_new, show (3988292384 : Int) = ((col 1 0 : Nat) : Int) from by rw [show col 1 0 = Crc.poly from Crc.col_zero]; rfl, matAt_set _ _ (by decide)]
  case round =>
    obtain ⟨r, hr1, hr, rfl, hm, hB⟩ := hrel
    have Hm := Lib.hid hm
    have HB := Lib.hid hB
    clear hm hB
    by_cases hlt : r < 32
    · have hc2 : wr.cell? ⟨w.heap.size, r, none⟩ = some (.int .u32 0) := by rw [cell_of_row _ _ _ _ _ _ Hm.out, matAt_get _ _ _ hlt, if_neg (by omega)]; rfl
      have hf : wr.frozen? ⟨w.heap.size, r, none⟩ = false := frozen_of_row _ _ _ _ _ Hm.out
      obtain ⟨q, rfl⟩ : ∃ q, r = q + 1 := ⟨r - 1, by omega⟩
      go_wp2
      go_roundw
      case rel =>
        refine ⟨q + 1 + 1, by omega, by omega, by go_num, ?_, HB.out.setCell (Nat.le_refl _) _⟩
        rw [heap_setCell_same _ _ _ _ _ _ Hm.out, ← matAt_set _ (q + 1) hlt, show col 1 (q + 1) = 2 ^ q from Crc.col_succ q]
        have hq : 2 ^ q < 2 ^ 32 := Nat.pow_lt_pow_right (by decide) (by omega)
        have e : ((2 : Int) ^ q % 4294967296) = ((2 ^ q : Nat) : Int) := by
          have : ((2 : Int) ^ q) = ((2 ^ q : Nat) : Int) := by simp
          rw [this]
          generalize (2 : Nat) ^ q = z at hq
          omega
        rw [e]
      case measure => simp [intOf]; omega
    · have hr32 : r = 32 := by omega
      have hm32 := Hm.out
      rw [hr32] at hm32
      have Hm := Lib.hid hm32
      clear hm32 hr32
      have ho := fun k => mat_one k 32
      have hs : ∀ k, (Try.prog.info? 45).map (·.size) = some (matAt k 32).size := fun k => by rw [matAt_size]; exact mat_hyps
      have Ho := Lib.hid ho
      have Hs := Lib.hid hs
      clear ho hs
      go_wp2
      go_loopw [22] (fun i wr => ∃ j : Nat, j ≤ 3 ∧ i = .int .i64 j ∧ wr.heap[w.heap.size]? = some (.cells (matAt (2 ^ j) 32) 45 (0, 0)) ∧ Below w.heap.size w wr) (fun i _ => 3 - (intOf i).toNat)
      case atStart => exact ⟨0, by omega, rfl, Hm.out, HB.out⟩
      case round =>
        clear Hm HB
        obtain ⟨j, hj, rfl, hm, hB⟩ := hrel
        have Hm := Lib.hid hm
        have HB := Lib.hid hB
        have hlw : w.heap.size < wr.heap.size := (Array.getElem?_eq_some_iff.1 hm).1
        clear hm hB
        by_cases hlt : j < 3
        · go_wp2_with (first
            | (go_at_call 19; refine (twice_w w.heap.size (2 ^ j) 45 _ Hm.out).mono ?_; rintro e w1 ⟨rfl, hb1⟩; have Hb1 := Lib.hid hb1; clear hb1)
            | (refine wpList_store_row rfl 45 (.tmp 8) (.tmp 24) rfl w.heap.size (matAt (2 ^ j + 2 ^ j) 32) rfl rfl 45 (matAt (2 ^ j) 32) ((Hb1.out.block _ hlw).trans Hm.out) (Hs.out _) (by rw [matAt_size, matAt_size]) (Ho.out _) ?_))
          go_roundw
          case rel =>
            refine ⟨j + 1, by omega, by go_num, ?_, Below_setRow (HB.out.trans (Hb1.out.mono HB.out.size)) (Nat.le_refl _) _⟩
            rw [setRow_heap _ _ _ _ _ _ ((Hb1.out.block _ hlw).trans Hm.out), Nat.pow_succ, Nat.mul_two]
          case measure => simp [intOf]; omega
        · have hj3 : j = 3 := by omega
          have hm3 := Hm.out
          rw [hj3] at hm3
          have Hm := Lib.hid hm3
          clear hm3 hj3
          go_wp2
          go_loopw [0, 2] (fun x i wr => ∃ x' n' k : Nat, i = .int .i64 n' ∧ x = .int .u32 x' ∧ n' ≤ n ∧ x' < 2 ^ 32 ∧ Crc.Sn (k * n') x' = Crc.Sn (8 * n) a ∧ wr.heap[w.heap.size]? = some (.cells (matAt k 32) 45 (0, 0)) ∧ Below w.heap.size w wr) (fun _ i _ => (intOf i).toNat)
          case atStart => exact ⟨a, n, 8, rfl, rfl, Nat.le_refl _, ha, rfl, Hm.out, HB.out⟩
          case round =>
            clear Hm HB hlw
            obtain ⟨x, m, k, rfl, rfl, hmn, hx, hS, hm, hB⟩ := hrel
            have Hm := Lib.hid hm
            have HB := Lib.hid hB
            have HS := Lib.hid hS
            have hlw : w.heap.size < wr.heap.size := (Array.getElem?_eq_some_iff.1 hm).1
            clear hm hB hS
            by_cases hpos : 0 < m
            · have hand := n_one m (by omega)
              have Hand := Lib.hid hand
              clear hand
              have hstep : Crc.Sn (k * m) x = Crc.Sn ((k + k) * (m / 2)) (if m % 2 = 1 then Crc.Sn k x else x) := by
                have e : k * m = k * (m % 2) + (k + k) * (m / 2) := by
                  have h1 : (k + k) * (m / 2) = k * (2 * (m / 2)) := by rw [← Nat.two_mul, Nat.mul_comm 2 k, Nat.mul_assoc]
                  rw [h1, ← Nat.mul_add]; congr 1; omega
                rw [e, Crc.Sn_add]
                by_cases h : m % 2 = 1
                · rw [if_pos h, h, Nat.mul_one]
                · rw [if_neg h, show m % 2 = 0 by omega]; rfl
              have Hstep := Lib.hid hstep
              clear hstep
              by_cases hodd : m % 2 = 1
              · have h1 : (bits .and .i64 (m : Int) 1 == 1) = true := by rw [Hand.out, hodd]; rfl
                have Hodd := Lib.hid hodd
                clear hodd
                go_wp2_with (first
                  | (go_at_call 20; refine (of_w w.heap.size k x hx 45 wr Hm.out).mono ?_; rintro e w1 ⟨rfl, rfl⟩)
                  | (go_at_call 19; refine (twice_w w.heap.size k 45 _ Hm.out).mono ?_; rintro e w1 ⟨rfl, hb1⟩; have Hb1 := Lib.hid hb1; clear hb1)
                  | (refine wpList_store_row rfl 45 (.tmp 8) (.tmp 35) rfl w.heap.size (matAt (k + k) 32) rfl rfl 45 (matAt k 32) ((Hb1.out.block _ hlw).trans Hm.out) (Hs.out _) (by rw [matAt_size, matAt_size]) (Ho.out _) ?_))
                go_roundw
                case rel =>
                  refine ⟨Crc.Sn k x, m / 2, k + k, by go_num, rfl, by omega, Crc.Sn_lt _ _ hx, ?_, setRow_heap _ _ _ _ _ _ ((Hb1.out.block _ hlw).trans Hm.out), Below_setRow (HB.out.trans (Hb1.out.mono HB.out.size)) (Nat.le_refl _) _⟩
                  rw [← HS.out, Hstep.out, if_pos Hodd.out]
                case measure => simp [intOf]; omega
              · have h1 : (bits .and .i64 (m : Int) 1 == 1) = false := by rw [Hand.out, show m % 2 = 0 by omega]; rfl
                have Hodd := Lib.hid hodd
                clear hodd
                go_wp2_with (first
                  | (go_at_call 19; refine (twice_w w.heap.size k 45 _ Hm.out).mono ?_; rintro e w1 ⟨rfl, hb1⟩; have Hb1 := Lib.hid hb1; clear hb1)
                  | (refine wpList_store_row rfl 45 (.tmp 8) (.tmp 35) rfl w.heap.size (matAt (k + k) 32) rfl rfl 45 (matAt k 32) ((Hb1.out.block _ hlw).trans Hm.out) (Hs.out _) (by rw [matAt_size, matAt_size]) (Ho.out _) ?_))
                go_roundw
                case rel =>
                  refine ⟨x, m / 2, k + k, by go_num, rfl, by omega, hx, ?_, setRow_heap _ _ _ _ _ _ ((Hb1.out.block _ hlw).trans Hm.out), Below_setRow (HB.out.trans (Hb1.out.mono HB.out.size)) (Nat.le_refl _) _⟩
                  rw [← HS.out, Hstep.out, if_neg Hodd.out]
                case measure => simp [intOf]; omega
            · obtain rfl : m = 0 := by omega
              have hx2 := xor_u32 x b hx hb
              go_wp2
              go_ret2
              refine ⟨?_, HB.out⟩
              have h := HS.out
              rw [Nat.mul_zero] at h
              have e : Crc.join a b n = x ^^^ b := by unfold Crc.join; rw [← h]; rfl
              rw [e]; rfl
end Go.Proofs.Ytjkldodlnpkdaaa
