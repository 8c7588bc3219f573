/- The data of a contract: as they lie, and whether they may be. -/
import Derived.Test.YtoflehlkacofjaaQcS1
namespace Go.Proofs.Ytoflehlkacofjaa
open Go.ChangeShapes Go.WideShapes Go.ChangeAt Go.RowKit
set_option linter.unusedVariables false
structure Sp where
  number : Int
  route : Int
  tick : Int
  lot : Int
  band : Int
  limit : Int
  sh : Nat → Int
  credit : Int
  last : Int
  first : Int

namespace Sp
def cells (s : Sp) : Array Value := #[.int .u32 s.number, .int .u8 s.route, .int .i64 s.tick, .int .i64 s.lot, .int .i64 s.band, .int .i64 s.limit,
  .int .i64 (s.sh 0), .int .i64 (s.sh 1), .int .i64 (s.sh 2), .int .i64 (s.sh 3), .int .i64 (s.sh 4), .int .i64 (s.sh 5), .int .i64 (s.sh 6), .int .i64 (s.sh 7),
  .int .i64 (s.sh 8), .int .i64 (s.sh 9), .int .i64 (s.sh 10), .int .i64 (s.sh 11), .int .i64 (s.sh 12), .int .i64 (s.sh 13), .int .i64 (s.sh 14), .int .i64 (s.sh 15),
  .int .i64 s.credit, .int .u32 s.last, .int .i64 s.first]
def row (s : Sp) : Array Value := #[.int .i64 (s.sh 0), .int .i64 (s.sh 1), .int .i64 (s.sh 2), .int .i64 (s.sh 3), .int .i64 (s.sh 4), .int .i64 (s.sh 5), .int .i64 (s.sh 6), .int .i64 (s.sh 7),
  .int .i64 (s.sh 8), .int .i64 (s.sh 9), .int .i64 (s.sh 10), .int .i64 (s.sh 11), .int .i64 (s.sh 12), .int .i64 (s.sh 13), .int .i64 (s.sh 14), .int .i64 (s.sh 15)]
def i64 (n : Int) : Prop := -9223372036854775808 ≤ n ∧ n ≤ 9223372036854775807
structure ok (s : Sp) : Prop where
  number : 0 ≤ s.number ∧ s.number ≤ 4294967295
  route : 0 ≤ s.route ∧ s.route ≤ 255
  tick : i64 s.tick
  lot : i64 s.lot
  band : i64 s.band
  limit : i64 s.limit
  sh : ∀ i, i64 (s.sh i)
  credit : i64 s.credit
  last : 0 ≤ s.last ∧ s.last ≤ 4294967295
  first : i64 s.first
theorem size (s : Sp) : s.cells.size = 25 := rfl
theorem row_at (s : Sp) (k : Nat) (hk : k < 16) : s.row[k]? = some (.int .i64 (s.sh k)) := by
  have h : k = 0 ∨ k = 1 ∨ k = 2 ∨ k = 3 ∨ k = 4 ∨ k = 5 ∨ k = 6 ∨ k = 7 ∨ k = 8 ∨ k = 9 ∨ k = 10 ∨ k = 11 ∨ k = 12 ∨ k = 13 ∨ k = 14 ∨ k = 15 := by omega
  rcases h with rfl | rfl | rfl | rfl | rfl | rfl | rfl | rfl | rfl | rfl | rfl | rfl | rfl | rfl | rfl | rfl <;> rfl
theorem sh_at (s : Sp) (k : Nat) (hk : k < 16) : s.cells[6 + k]? = some (.int .i64 (s.sh k)) := by
  have h : k = 0 ∨ k = 1 ∨ k = 2 ∨ k = 3 ∨ k = 4 ∨ k = 5 ∨ k = 6 ∨ k = 7 ∨ k = 8 ∨ k = 9 ∨ k = 10 ∨ k = 11 ∨ k = 12 ∨ k = 13 ∨ k = 14 ∨ k = 15 := by omega
  rcases h with rfl | rfl | rfl | rfl | rfl | rfl | rfl | rfl | rfl | rfl | rfl | rfl | rfl | rfl | rfl | rfl <;> rfl
def all (s : Sp) (n : Nat) : Bool := (List.range n).all fun i => Form.farB (s.sh i) 10000000
def up (s : Sp) (n : Nat) : Bool := (List.range n).any fun i => decide (0 < s.sh i)
def down (s : Sp) (n : Nat) : Bool := (List.range n).any fun i => decide (s.sh i < 0)
theorem all_succ (s : Sp) (n : Nat) : s.all (n + 1) = (s.all n && Form.farB (s.sh n) 10000000) := by unfold all; rw [List.range_succ]; simp
theorem up_succ (s : Sp) (n : Nat) : s.up (n + 1) = (s.up n || decide (0 < s.sh n)) := by unfold up; rw [List.range_succ]; simp
theorem down_succ (s : Sp) (n : Nat) : s.down (n + 1) = (s.down n || decide (s.sh n < 0)) := by unfold down; rw [List.range_succ]; simp
theorem all_le (s : Sp) {n m : Nat} (h : n ≤ m) (ha : s.all n = false) : s.all m = false := by
  unfold all at *
  rw [List.all_eq_false] at *
  obtain ⟨x, hx, hf⟩ := ha
  exact ⟨x, List.mem_range.2 (by have := List.mem_range.1 hx; omega), hf⟩
def mayB (s : Sp) : Bool := s.all 16 && (s.up 16 && (s.down 16 && (decide (s.number ≠ 0) && (Form.inB s.route 1 8 && (Form.inB s.tick 1 10000000 && (Form.inB s.lot 1 1000000 && (Form.inB s.band 0 10000000 && (Form.inB s.limit 1 10000000 && (Form.inB s.credit 0 10000000 && Form.priceB s.tick s.first)))))))))
end Sp
/-- A contract's data lie at block B. -/
def SpAt (w : World) (B : Nat) (s : Sp) : Prop := w.heap[B]? = some (.cells s.cells 27)
theorem SpAt.new (w : World) (s : Sp) : SpAt (w.alloc (.cells s.cells 27)) w.heap.size s := heap_alloc_new w _
theorem SpAt.at {w : World} {B : Nat} {s : Sp} (h : SpAt w B s) (k : Nat) : w.cell? ⟨B, k, none⟩ = s.cells[k]? := by rw [cell_of_row _ _ _ _ _ _ h]
theorem SpAt.range {w : World} {B : Nat} {s : Sp} (h : SpAt w B s) : w.rangeAt B 6 s.row.toList := by
  intro j v hv
  have hj : j < 16 := (List.getElem?_eq_some_iff.1 hv).1
  rw [h.at, s.sh_at j hj]
  rw [Array.getElem?_toList, s.row_at j hj] at hv
  exact hv

set_option maxRecDepth 100000 in
theorem run_index_row (s : Sp) (k : Nat) (hk : k < 16) (W : World) : (Instr.index 25 (.agg s.row) (.int .i64 (k : Int))).run Try.prog W = .ok (.int .i64 (s.sh k)) W := by
  have h : k = 0 ∨ k = 1 ∨ k = 2 ∨ k = 3 ∨ k = 4 ∨ k = 5 ∨ k = 6 ∨ k = 7 ∨ k = 8 ∨ k = 9 ∨ k = 10 ∨ k = 11 ∨ k = 12 ∨ k = 13 ∨ k = 14 ∨ k = 15 := by omega
  rcases h with rfl | rfl | rfl | rfl | rfl | rfl | rfl | rfl | rfl | rfl | rfl | rfl | rfl | rfl | rfl | rfl <;> rfl

set_option maxRecDepth 100000 in
set_option maxHeartbeats 1600000 in
theorem may_w (s : Sp) (w : World) (h : s.ok) : Calls Try.prog 54 #[.agg s.cells] w fun r w' => r = .returned (.bool s.mayB) ∧ Below w.heap.size w w' := by
  have HB := Lib.hid ((Below.refl w.heap.size w).alloc (Nat.le_refl _) (.cells s.cells 27))
  have HS := Lib.hid (SpAt.new w s)
  have HR := Lib.hid HS.out.range
  have c0 : s.cells[0]? = some (.int .u32 s.number) := rfl
  have c1 : s.cells[1]? = some (.int .u8 s.route) := rfl
  have c2 : s.cells[2]? = some (.int .i64 s.tick) := rfl
  have c3 : s.cells[3]? = some (.int .i64 s.lot) := rfl
  have c4 : s.cells[4]? = some (.int .i64 s.band) := rfl
  have c5 : s.cells[5]? = some (.int .i64 s.limit) := rfl
  have c22 : s.cells[22]? = some (.int .i64 s.credit) := rfl
  have c24 : s.cells[24]? = some (.int .i64 s.first) := rfl
  have d0 := (HS.out.at 0).trans c0
  have d1 := (HS.out.at 1).trans c1
  have d2 := (HS.out.at 2).trans c2
  have d3 := (HS.out.at 3).trans c3
  have d4 := (HS.out.at 4).trans c4
  have d5 := (HS.out.at 5).trans c5
  have d22 := (HS.out.at 22).trans c22
  have d24 := (HS.out.at 24).trans c24
  go_enter Try.func54, Try.ntmps54
  go_wp2_with (refine wpList_load_mid rfl 25 (.tmp 7) rfl _ _ rfl s.row.toList _ HR.out Try.underlying25 rfl (show _ = some 16 by kernel_rfl) ?_; rw [Array.toArray_toList])
  have Hok := Lib.hid h
  clear h
  go_loop [3, 4, 9] (fun u d i => ∃ k : Nat, k ≤ 16 ∧ i = .int .i64 (k : Int) ∧ u = .bool (s.up k) ∧ d = .bool (s.down k) ∧ s.all k = true) (fun _ _ i => 16 - (intOf i).toNat)
  case atStart => exact ⟨0, by decide, rfl, rfl, rfl, rfl⟩
  case round =>
    obtain ⟨k, hk, rfl, rfl, rfl, hall⟩ := hrel
    have Hall := Lib.hid hall
    clear hall
    by_cases hlt : k < 16
    · have hidx := run_index_row s k hlt
      have Hup := Lib.hid (s.up_succ k)
      have Hdn := Lib.hid (s.down_succ k)
      have Hal := Lib.hid (s.all_succ k)
      have Hf := Lib.hid (far_w2 (s.sh k) 10000000 (w.alloc (.cells s.cells 27)) (Hok.out.sh k) (by decide))
      rw [Hall.out] at Hal
      have Hle := Lib.hid (fun h => s.all_le (n := k + 1) (m := 16) (by omega) h)
      generalize s.sh k = x at *
      generalize Form.farB x 10000000 = q at *
      generalize s.up k = ub at *
      generalize s.down k = db at *
      cases q with
      | false =>
        go_wp2_with (go_at_call 76; refine (Hf.out).mono ?_; rintro r w1 ⟨rfl, rfl⟩)
        go_ret
        exact ⟨by unfold Sp.mayB; rw [Hle.out (by rw [Hal.out]; rfl)]; rfl, HB.out⟩
      | true =>
        cases ub <;> cases db
        all_goals go_wp2_with (go_at_call 76; refine (Hf.out).mono ?_; rintro r w1 ⟨rfl, rfl⟩)
        all_goals go_round
        all_goals first
          | exact ⟨k + 1, by omega, by go_num, by rw [Hup.out]; rfl, by rw [Hdn.out]; rfl, by rw [Hal.out]; rfl⟩
          | (simp [intOf]; omega)
    · have hk16 : k = 16 := by omega
      subst hk16
      have hmay : s.mayB = (s.up 16 && (s.down 16 && (decide (s.number ≠ 0) && (Form.inB s.route 1 8 && (Form.inB s.tick 1 10000000 && (Form.inB s.lot 1 1000000 && (Form.inB s.band 0 10000000 && (Form.inB s.limit 1 10000000 && (Form.inB s.credit 0 10000000 && Form.priceB s.tick s.first))))))))) := by unfold Sp.mayB; rw [Hall.out]; rfl
      have hrt := Hok.out.route
      have Hmay := Lib.hid hmay
      clear hmay
      go_wp2_with (first
        | (go_at_call 77; refine (within_w _ _ _ _).mono ?_; rintro r w1 ⟨rfl, rfl⟩)
        | (go_at_call 78; refine (price_w _ _ _ (by have h : Form.inB s.tick 1 10000000 = true := by assumption
                                                    unfold Form.inB at h; simp at h; omega)).mono ?_; rintro r w1 ⟨rfl, rfl⟩))
      all_goals go_ret
      all_goals exact ⟨by rw [Hmay.out]; simp [*], HB.out⟩
end Go.Proofs.Ytoflehlkacofjaa
