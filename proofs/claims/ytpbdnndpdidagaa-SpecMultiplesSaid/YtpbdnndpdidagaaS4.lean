/- The data of a contract: prices, quantities, bands. -/
import Derived.Test.YtpbdnndpdidagaaS3
namespace Go.Proofs.Ytpbdnndpdidagaa
open Go.ChangeShapes Go.WideShapes Go.ChangeAt Go.RowKit
set_option linter.unusedVariables false

namespace Sp
def isPrice (s : Sp) (n : Int) : Bool := s.mayB && Form.priceB s.tick n
def isQty (s : Sp) (n : Int) : Bool := s.mayB && (Form.inB n 1 1000000 && decide (n % s.lot = 0))
def inBand (s : Sp) (at_ n : Int) : Bool := s.mayB && decide (-s.band ≤ n - at_ ∧ n - at_ ≤ s.band)
theorem may_tick {s : Sp} (h : s.mayB = true) : 1 ≤ s.tick ∧ 1 ≤ s.lot ∧ 0 ≤ s.band ∧ s.band ≤ 10000000 := by
  unfold mayB Form.inB at h
  simp only [Bool.and_eq_true, decide_eq_true_eq] at h
  omega
end Sp

/-- The data at block B read whole. -/
theorem SpAt.below {w w' : World} {B : Nat} {s : Sp} (h : SpAt w B s) (hB : Below w.heap.size w w') : SpAt w' B s := by
  unfold SpAt at *
  rw [hB.block B (Array.getElem?_eq_some_iff.1 h).1]; exact h

set_option maxRecDepth 100000 in
theorem isprice_w (s : Sp) (n : Int) (w : World) (h : s.ok) : Calls Try.prog 53 #[.agg s.cells, .int .i64 n] w fun r w' => r = .returned (.bool (s.isPrice n)) ∧ Below w.heap.size w w' := by
  have HB := Lib.hid ((Below.refl w.heap.size w).alloc (Nat.le_refl _) (.cells s.cells 66))
  have HS := Lib.hid (SpAt.new w s)
  have Hm := Lib.hid (may_w s (w.alloc (.cells s.cells 66)) h)
  have Ht := Lib.hid (@Sp.may_tick s)
  have hp : s.isPrice n = (s.mayB && Form.priceB s.tick n) := rfl
  rw [hp]
  generalize s.mayB = q at *
  clear hp
  cases q with
  | false =>
    go_enter Try.func53, Try.ntmps53
    go_wp2_with (first
      | (refine wpList_load_row rfl 66 (.tmp 2) rfl _ rfl _ _ _ _ HS.out Try.underlying66 rfl (show _ = some 25 by kernel_rfl) ?_)
      | (go_at_call 51; refine (Hm.out).mono ?_; rintro r w1 ⟨rfl, hB⟩; have HB1 := Lib.hid hB; clear hB))
    go_ret
    exact ⟨rfl, HB.out.trans (HB1.out.mono HB.out.size)⟩
  | true =>
    have ht := (Ht.out rfl).1
    go_enter Try.func53, Try.ntmps53
    go_wp2_with (first
      | (refine wpList_load_row rfl 66 (.tmp 2) rfl _ rfl _ _ _ _ HS.out Try.underlying66 rfl (show _ = some 25 by kernel_rfl) ?_)
      | (go_at_call 51; refine (Hm.out).mono ?_; rintro r w1 ⟨rfl, hB⟩; have HB1 := Lib.hid hB; have d2 := ((HS.out.below hB).at 2).trans (show s.cells[2]? = some (.int .i64 s.tick) from rfl); clear hB)
      | (go_at_call 68; refine (price_w _ _ _ ht).mono ?_; rintro r w2 ⟨rfl, rfl⟩))
    go_ret
    exact ⟨by simp, HB.out.trans (HB1.out.mono HB.out.size)⟩
end Go.Proofs.Ytpbdnndpdidagaa
