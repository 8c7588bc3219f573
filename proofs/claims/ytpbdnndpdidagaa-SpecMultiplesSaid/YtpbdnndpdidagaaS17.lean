/- The law of bands. -/
import Derived.Test.YtpbdnndpdidagaaS16
namespace Go.Proofs.Ytpbdnndpdidagaa
open Go.ChangeShapes Go.WideShapes Go.ChangeAt Go.RowKit
set_option linter.unusedVariables false

namespace Sp
def wide (s : Sp) : Sp := { s with band := 10000000 }
theorem wide_ok (s : Sp) (h : s.ok) : s.wide.ok := ⟨h.number, h.route, h.tick, h.lot, (by unfold i64; decide : i64 10000000), h.limit, h.sh, h.credit, h.last, h.first⟩
theorem wide_may (s : Sp) (h : s.mayB = true) : s.wide.mayB = true := by
  have hb : s.wide.mayB = s.mayB ∨ Form.inB s.band 0 10000000 = false := by
    by_cases hb : Form.inB s.band 0 10000000 = true
    · left
      have h2 : Form.inB s.wide.band 0 10000000 = true := rfl
      unfold mayB
      rw [h2, hb]
      rfl
    · right; simpa using hb
  rcases hb with hb | hb
  · rw [hb]; exact h
  · unfold mayB at h; rw [hb] at h; simp at h
theorem wide_band (s : Sp) (a n : Int) (h : s.inBand a n = true) : s.wide.inBand a n = true := by
  unfold inBand at *
  simp only [Bool.and_eq_true, decide_eq_true_eq] at h
  have h1 := may_tick h.1
  rw [wide_may s h.1, Bool.true_and, decide_eq_true_eq]
  show -10000000 ≤ n - a ∧ n - a ≤ 10000000
  omega
theorem band_self (s : Sp) (a : Int) (h : s.mayB = true) : s.inBand a a = true := by
  unfold inBand
  have h1 := may_tick h
  rw [h, Bool.true_and, decide_eq_true_eq]; omega
end Sp

/-- A whole load that a guard lets happen. -/
theorem wpList_load_sp {ops : Array Oper} {rest : List Oper} {o : Oper} {a : Act} {w : World} {Q : Exit → Act → World → Prop} {B : Nat} {s : Sp} (hw : Region.wanted o (yielded ops a.tmps) = true) (x : Operand) (ho : o.op = .load 66 x)
    (hx : a.eval x = .pointer (some ⟨B, 0, none⟩)) (h : SpAt w B s) (k : wpList Try.prog ops Q rest (a.put o.dst (.agg s.cells)) w) : wpList Try.prog ops Q (o :: rest) a w := by
  unfold wpList
  rw [if_pos hw]
  exact .inl (wp_load_row 66 x ho B hx 66 s.cells (0, 0) _ h Try.underlying66 rfl (show _ = some 25 by kernel_rfl) k)

set_option maxRecDepth 100000 in
set_option maxHeartbeats 1600000 in
theorem bands_law_w (s : Sp) (a n : Int) (w : World) (h : s.ok) (ha : Sp.i64 a) (hn : Sp.i64 n) : Calls Try.prog 13 #[.agg s.cells, .int .i64 a, .int .i64 n] w fun r w' => r = .returned (.bool true) ∧ Below w.heap.size w w' := by
  have HC := Lib.hid (And.intro (SpAt.new w s) ((Below.refl w.heap.size w).alloc (Nat.le_refl _) (.cells s.cells 66)))
  have HM := Lib.hid (fun W => may_w s W h)
  have HI1 := Lib.hid (fun W => inband_w s a n W h ha hn)
  have HI2 := Lib.hid (fun W => inband_w s a a W h ha ha)
  have HI3 := Lib.hid (fun W => inband_w s n a W h hn ha)
  have HI4 := Lib.hid (fun W => inband_w s.wide a n W (s.wide_ok h) ha hn)
  rw [s.inBand_comm] at HI3
  have Hself := Lib.hid (s.band_self a)
  have Hwide := Lib.hid (s.wide_band a n)
  have hz : s.mayB = false → s.inBand a a = false := fun e => by unfold Sp.inBand; rw [e]; rfl
  have Hz := Lib.hid hz
  clear h ha hn hz
  cases hm : s.mayB with
  | false =>
    rw [Hz.out hm] at HI2
    rw [hm] at HM
    clear hm Hself Hwide Hz
    go_enter Try.func13, Try.ntmps13
    go_wp2_with (first
      | (refine wpList_load_sp rfl (.tmp 3) rfl rfl HC.out.1 ?_)
      | (go_at_call 51; with_reducible refine (HM.out _).mono ?_; rintro r w1 ⟨rfl, hB⟩; have HC := Lib.hid (And.intro (HC.out.1.below hB) (HC.out.2.trans (hB.mono HC.out.2.size))); clear hB)
      | (go_at_call 55; with_reducible refine (HI2.out _).mono ?_; rintro r w2 ⟨rfl, hB⟩; have HC := Lib.hid (And.intro (HC.out.1.below hB) (HC.out.2.trans (hB.mono HC.out.2.size))); clear hB)
      | (go_at_call 46; with_reducible refine (known4_w _).mono ?_; rintro r w3 ⟨rfl, hB⟩; have HC := Lib.hid (And.intro (HC.out.1.below hB) (HC.out.2.trans (hB.mono HC.out.2.size))); clear hB))
    go_ret
    exact ⟨rfl, HC.out.2⟩
  | true =>
    rw [Hself.out hm] at HI2
    rw [hm] at HM
    clear hm Hself Hz
    have hw : s.inBand a n = true → s.wide.inBand a n = true := Hwide.out
    generalize s.inBand a n = qb at *
    generalize s.wide.inBand a n = qw at *
    clear Hwide
    cases qb with
    | true =>
      obtain rfl := hw rfl
      clear hw
      go_enter Try.func13, Try.ntmps13
      go_wp2_with (first
        | (refine wpList_load_sp rfl (.tmp 3) rfl rfl HC.out.1 ?_)
        | (refine wpList_load_sp rfl (.tmp 7) rfl rfl HD.out ?_)
        | (refine wpList_alloc_zero rfl 66 rfl _ hz66 ?_)
        | (refine wpList_store_rowTo rfl 66 (.tmp 7) (.tmp 20) rfl rfl _ s.cells rfl rfl 66 Sp.zero.cells HN1.out (show _ = some 25 by kernel_rfl) rfl (cells_one _) ?_; rw [HW2.out]; have HC := HC3; have HD := HN3)
        | (go_at_call 51; with_reducible refine (HM.out _).mono ?_; rintro r w1 ⟨rfl, hB⟩
           have HC := Lib.hid (And.intro (HC.out.1.below hB) (HC.out.2.trans (hB.mono HC.out.2.size)))
           clear hB
           have HN1 := Lib.hid (SpAt.new w1 Sp.zero)
           have hlt1 : w.heap.size < w1.heap.size := (Array.getElem?_eq_some_iff.1 HC.out.1).1
           obtain ⟨W2, hW2⟩ : ∃ W2, (w1.alloc (.cells Sp.zero.cells 66)).setRow w1.heap.size s.cells = W2 := ⟨_, rfl⟩
           have HW2 := Lib.hid hW2
           have hN2 : SpAt W2 w1.heap.size s := by rw [← hW2]; exact setRow_heap _ _ _ _ _ _ HN1.out
           have hB2 : Below w1.heap.size w1 W2 := by rw [← hW2]; exact ⟨rfl, rfl, rfl, by simp [World.setRow], fun k hk => by rw [setRow_other _ _ _ _ (by omega), Below.heap_alloc w1 _ k hk]⟩
           have d4 := (hN2.at 4).trans (show s.cells[4]? = some (.int .i64 s.band) from rfl)
           have f4 := hN2.frozen 4
           have HN3 := Lib.hid (hN2.put 4 (.int .i64 10000000) (t := s.wide) rfl)
           have HC3 := Lib.hid (And.intro ((HC.out.1.below hB2).kept (Lib.grownBy_setCell W2 w1.heap.size 4 (.int .i64 10000000)) (by simp; omega)) (setCell_grow (i := 4) (v := .int .i64 10000000) (HC.out.2.trans (hB2.mono (by omega))) (Nat.le_of_lt hlt1)))
           clear hW2 hN2 hB2)
        | (go_at_call 55; (first | with_reducible refine (HI1.out _).mono ?_ | with_reducible refine (HI2.out _).mono ?_ | with_reducible refine (HI3.out _).mono ?_ | with_reducible refine (HI4.out _).mono ?_); rintro r w2 ⟨rfl, hB⟩; have HC := Lib.hid (And.intro (HC.out.1.below hB) (HC.out.2.trans (hB.mono HC.out.2.size))); have HD := Lib.hid (HD.out.below hB); clear hB)
        | (go_at_call 46; with_reducible refine (known4_w _).mono ?_; rintro r w3 ⟨rfl, hB⟩; have HC := Lib.hid (And.intro (HC.out.1.below hB) (HC.out.2.trans (hB.mono HC.out.2.size))); clear hB))
      go_ret
      exact ⟨rfl, HC.out.2⟩
    | false =>
      clear hw HI4
      go_enter Try.func13, Try.ntmps13
      go_wp2_with (first
        | (refine wpList_load_sp rfl (.tmp 3) rfl rfl HC.out.1 ?_)
        | (refine wpList_alloc_zero rfl 66 rfl _ hz66 ?_)
        | (refine wpList_store_rowTo rfl 66 (.tmp 7) (.tmp 20) rfl rfl _ s.cells rfl rfl 66 Sp.zero.cells HN1.out (show _ = some 25 by kernel_rfl) rfl (cells_one _) ?_; rw [HW2.out]; have HC := HC3)
        | (go_at_call 51; with_reducible refine (HM.out _).mono ?_; rintro r w1 ⟨rfl, hB⟩
           have HC := Lib.hid (And.intro (HC.out.1.below hB) (HC.out.2.trans (hB.mono HC.out.2.size)))
           clear hB
           have HN1 := Lib.hid (SpAt.new w1 Sp.zero)
           have hlt1 : w.heap.size < w1.heap.size := (Array.getElem?_eq_some_iff.1 HC.out.1).1
           obtain ⟨W2, hW2⟩ : ∃ W2, (w1.alloc (.cells Sp.zero.cells 66)).setRow w1.heap.size s.cells = W2 := ⟨_, rfl⟩
           have HW2 := Lib.hid hW2
           have hN2 : SpAt W2 w1.heap.size s := by rw [← hW2]; exact setRow_heap _ _ _ _ _ _ HN1.out
           have hB2 : Below w1.heap.size w1 W2 := by rw [← hW2]; exact ⟨rfl, rfl, rfl, by simp [World.setRow], fun k hk => by rw [setRow_other _ _ _ _ (by omega), Below.heap_alloc w1 _ k hk]⟩
           have d4 := (hN2.at 4).trans (show s.cells[4]? = some (.int .i64 s.band) from rfl)
           have f4 := hN2.frozen 4
           have HC3 := Lib.hid (And.intro ((HC.out.1.below hB2).kept (Lib.grownBy_setCell W2 w1.heap.size 4 (.int .i64 10000000)) (by simp; omega)) (setCell_grow (i := 4) (v := .int .i64 10000000) (HC.out.2.trans (hB2.mono (by omega))) (Nat.le_of_lt hlt1)))
           clear hW2 hN2 hB2)
        | (go_at_call 55; (first | with_reducible refine (HI1.out _).mono ?_ | with_reducible refine (HI2.out _).mono ?_ | with_reducible refine (HI3.out _).mono ?_); rintro r w2 ⟨rfl, hB⟩; have HC := Lib.hid (And.intro (HC.out.1.below hB) (HC.out.2.trans (hB.mono HC.out.2.size))); clear hB)
        | (go_at_call 46; with_reducible refine (known4_w _).mono ?_; rintro r w3 ⟨rfl, hB⟩; have HC := Lib.hid (And.intro (HC.out.1.below hB) (HC.out.2.trans (hB.mono HC.out.2.size))); clear hB))
      go_ret
      exact ⟨rfl, HC.out.2⟩
end Go.Proofs.Ytpbdnndpdidagaa
