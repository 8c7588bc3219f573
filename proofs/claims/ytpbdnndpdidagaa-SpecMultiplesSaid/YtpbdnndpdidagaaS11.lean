/- Quantities, bands; the document's prices, quantities, bands. -/
import Derived.Test.YtpbdnndpdidagaaS4
import Derived.Deep.QuietTactic
import Derived.BigQuiet
namespace Go.Proofs.Ytpbdnndpdidagaa
open Go.ChangeShapes Go.WideShapes Go.ChangeAt Go.RowKit
set_option linter.unusedVariables false

set_option maxRecDepth 100000 in
theorem refisprice_w (s : Sp) (n : Int) (w : World) (h : s.ok) (hn : n ≤ 9223372036854775807) : Calls Try.prog 56 #[.agg s.cells, .int .i64 n] w fun r w' => r = .returned (.bool (s.isPrice n)) ∧ Below w.heap.size w w' := by
  have HB := Lib.hid ((Below.refl w.heap.size w).alloc (Nat.le_refl _) (.cells s.cells 66))
  have HS := Lib.hid (SpAt.new w s)
  have Hm := Lib.hid (refmay_w s (w.alloc (.cells s.cells 66)) h)
  have Ht := Lib.hid (@Sp.may_tick s)
  have hp : s.isPrice n = (s.mayB && Form.priceB s.tick n) := rfl
  rw [hp]
  generalize s.mayB = q at *
  clear hp
  cases q with
  | false =>
    go_enter Try.func56, Try.ntmps56
    go_wp2_with (first
      | (refine wpList_load_row rfl 66 (.tmp 2) rfl _ rfl _ _ _ _ HS.out Try.underlying66 rfl (show _ = some 25 by kernel_rfl) ?_)
      | (go_at_call 49; refine (Hm.out).mono ?_; rintro r w1 ⟨rfl, hB⟩; have HB1 := Lib.hid hB; clear hB))
    go_ret
    exact ⟨rfl, HB.out.trans (HB1.out.mono HB.out.size)⟩
  | true =>
    have ht := (Ht.out rfl).1
    go_enter Try.func56, Try.ntmps56
    go_wp2_with (first
      | (refine wpList_load_row rfl 66 (.tmp 2) rfl _ rfl _ _ _ _ HS.out Try.underlying66 rfl (show _ = some 25 by kernel_rfl) ?_)
      | (go_at_call 49; refine (Hm.out).mono ?_; rintro r w1 ⟨rfl, hB⟩; have HB1 := Lib.hid hB; have d2 := ((HS.out.below hB).at 2).trans (show s.cells[2]? = some (.int .i64 s.tick) from rfl); clear hB)
      | (go_at_call 65; refine (refprice_w _ _ _ ht hn).mono ?_; rintro r w2 ⟨rfl, rfl⟩))
    go_ret
    exact ⟨by simp, HB.out.trans (HB1.out.mono HB.out.size)⟩

set_option maxRecDepth 100000 in
theorem isqty_w (s : Sp) (n : Int) (w : World) (h : s.ok) : Calls Try.prog 54 #[.agg s.cells, .int .i64 n] w fun r w' => r = .returned (.bool (s.isQty n)) ∧ Below w.heap.size w w' := by
  have HB := Lib.hid ((Below.refl w.heap.size w).alloc (Nat.le_refl _) (.cells s.cells 66))
  have HS := Lib.hid (SpAt.new w s)
  have Hm := Lib.hid (may_w s (w.alloc (.cells s.cells 66)) h)
  have Ht := Lib.hid (@Sp.may_tick s)
  have hp : s.isQty n = (s.mayB && (Form.inB n 1 1000000 && decide (n % s.lot = 0))) := rfl
  obtain ⟨q2, hq2⟩ : ∃ q, Form.inB n 1 1000000 = q := ⟨_, rfl⟩
  have H := Lib.hid (within_w n 1 1000000)
  rw [hq2] at H hp
  rw [hp]
  generalize s.mayB = q at *
  clear hp
  cases q with
  | false =>
    clear hq2
    go_enter Try.func54, Try.ntmps54
    go_wp2_with (first
      | (refine wpList_load_row rfl 66 (.tmp 2) rfl _ rfl _ _ _ _ HS.out Try.underlying66 rfl (show _ = some 25 by kernel_rfl) ?_)
      | (go_at_call 51; refine (Hm.out).mono ?_; rintro r w1 ⟨rfl, hB⟩; have HB1 := Lib.hid hB; clear hB))
    go_ret
    exact ⟨rfl, HB.out.trans (HB1.out.mono HB.out.size)⟩
  | true =>
    have ht := (Ht.out rfl).2.1
    cases q2 with
    | false =>
      clear hq2
      go_enter Try.func54, Try.ntmps54
      go_wp2_with (first
        | (refine wpList_load_row rfl 66 (.tmp 2) rfl _ rfl _ _ _ _ HS.out Try.underlying66 rfl (show _ = some 25 by kernel_rfl) ?_)
        | (go_at_call 51; refine (Hm.out).mono ?_; rintro r w1 ⟨rfl, hB⟩; have HB1 := Lib.hid hB; clear hB)
        | (go_at_call 67; refine (H.out _).mono ?_; rintro r w2 ⟨rfl, rfl⟩))
      go_ret
      exact ⟨by simp, HB.out.trans (HB1.out.mono HB.out.size)⟩
    | true =>
      have hn : 1 ≤ n := by unfold Form.inB at hq2; simp at hq2; omega
      obtain ⟨lot, hlot⟩ : ∃ z, s.lot = z := ⟨_, rfl⟩
      have D := Lib.hid (show s.cells[3]? = some (.int .i64 lot) by rw [← hlot]; rfl)
      rw [hlot] at ht
      rw [hlot]
      obtain ⟨z, hz⟩ : ∃ z, n % lot = z := ⟨_, rfl⟩
      obtain ⟨zb, hzb⟩ : ∃ zb, decide (z = 0) = zb := ⟨_, rfl⟩
      have hz2 : (z == 0) = zb := by rw [← hzb, Bool.eq_iff_iff]; simp
      rw [hz, hzb]
      clear hq2 hzb hlot
      go_enter Try.func54, Try.ntmps54
      go_wp2_with (first
        | (refine wpList_load_row rfl 66 (.tmp 2) rfl _ rfl _ _ _ _ HS.out Try.underlying66 rfl (show _ = some 25 by kernel_rfl) ?_)
        | (go_at_call 51; refine (Hm.out).mono ?_; rintro r w1 ⟨rfl, hB⟩; have HB1 := Lib.hid hB; have d2 := ((HS.out.below hB).at 3).trans D.out; clear hB)
        | (go_at_call 67; refine (H.out _).mono ?_; rintro r w2 ⟨rfl, rfl⟩))
      go_ret
      exact ⟨by simp, HB.out.trans (HB1.out.mono HB.out.size)⟩

set_option maxRecDepth 100000 in
theorem inband_w (s : Sp) (a n : Int) (w : World) (h : s.ok) (ha : Sp.i64 a) (hn : Sp.i64 n) : Calls Try.prog 55 #[.agg s.cells, .int .i64 a, .int .i64 n] w fun r w' => r = .returned (.bool (s.inBand a n)) ∧ Below w.heap.size w w' := by
  have HB := Lib.hid ((Below.refl w.heap.size w).alloc (Nat.le_refl _) (.cells s.cells 66))
  have HS := Lib.hid (SpAt.new w s)
  have Hm := Lib.hid (may_w s (w.alloc (.cells s.cells 66)) h)
  have Ht := Lib.hid (@Sp.may_tick s)
  have hp : s.inBand a n = (s.mayB && decide (-s.band ≤ n - a ∧ n - a ≤ s.band)) := rfl
  rw [hp]
  generalize s.mayB = q at *
  clear hp
  by_cases hd : Sp.i64 (n - a)
  · have Hsub := Lib.hid (sub_ok_w n a (w.alloc (.cells s.cells 66)) hn ha hd)
    cases q with
    | false =>
      clear hd ha hn
      go_enter Try.func55, Try.ntmps55
      go_wp2_with (first
        | (go_at_call 70; refine (Hsub.out).mono ?_; rintro r w0 ⟨rfl, rfl⟩)
        | (refine wpList_load_row rfl 66 (.tmp 3) rfl _ rfl _ _ _ _ HS.out Try.underlying66 rfl (show _ = some 25 by kernel_rfl) ?_)
        | (go_at_call 51; refine (Hm.out).mono ?_; rintro r w1 ⟨rfl, hB⟩; have HB1 := Lib.hid hB; clear hB))
      go_ret
      exact ⟨rfl, HB.out.trans (HB1.out.mono HB.out.size)⟩
    | true =>
      obtain ⟨-, -, hb0, hb1⟩ := Ht.out rfl
      obtain ⟨z, hz⟩ : ∃ z, n - a = z := ⟨_, rfl⟩
      have Hfar := Lib.hid (fun W => far_w2 z s.band W (by rw [← hz]; exact hd) (by omega))
      have hfb : Form.farB z s.band = decide (-s.band ≤ z ∧ z ≤ s.band) := by unfold Form.farB; simp [hb0]
      rw [hfb] at Hfar
      rw [hz] at Hsub
      rw [hz]
      clear hd ha hn hfb hz
      go_enter Try.func55, Try.ntmps55
      go_wp2_with (first
        | (go_at_call 70; refine (Hsub.out).mono ?_; rintro r w0 ⟨rfl, rfl⟩)
        | (refine wpList_load_row rfl 66 (.tmp 3) rfl _ rfl _ _ _ _ HS.out Try.underlying66 rfl (show _ = some 25 by kernel_rfl) ?_)
        | (go_at_call 51; refine (Hm.out).mono ?_; rintro r w1 ⟨rfl, hB⟩; have HB1 := Lib.hid hB; have d4 := ((HS.out.below hB).at 4).trans (show s.cells[4]? = some (.int .i64 s.band) from rfl); clear hB)
        | (go_at_call 66; refine (Hfar.out _).mono ?_; rintro r w2 ⟨rfl, rfl⟩))
      go_ret
      exact ⟨by rw [Bool.true_and, Bool.decide_and]; rfl, HB.out.trans (HB1.out.mono HB.out.size)⟩
  · have Hsub := Lib.hid (sub_bad_w n a (w.alloc (.cells s.cells 66)) hn ha hd)
    have Hno := Lib.hid (show (q && decide (-s.band ≤ n - a ∧ n - a ≤ s.band)) = false by
      cases q with
      | false => rfl
      | true =>
        obtain ⟨-, -, hb0, hb1⟩ := Ht.out rfl
        unfold Sp.i64 at *
        rw [Bool.true_and, decide_eq_false_iff_not]; omega)
    rw [Hno.out]
    clear hd ha hn
    cases q with
    | false =>
      go_enter Try.func55, Try.ntmps55
      go_wp2_with (first
        | (go_at_call 70; refine (Hsub.out).mono ?_; rintro r w0 ⟨rfl, rfl⟩)
        | (refine wpList_load_row rfl 66 (.tmp 3) rfl _ rfl _ _ _ _ HS.out Try.underlying66 rfl (show _ = some 25 by kernel_rfl) ?_)
        | (go_at_call 51; refine (Hm.out).mono ?_; rintro r w1 ⟨rfl, hB⟩; have HB1 := Lib.hid hB; clear hB))
      go_ret
      exact ⟨rfl, HB.out.trans (HB1.out.mono HB.out.size)⟩
    | true =>
      go_enter Try.func55, Try.ntmps55
      go_wp2_with (first
        | (go_at_call 70; refine (Hsub.out).mono ?_; rintro r w0 ⟨rfl, rfl⟩)
        | (refine wpList_load_row rfl 66 (.tmp 3) rfl _ rfl _ _ _ _ HS.out Try.underlying66 rfl (show _ = some 25 by kernel_rfl) ?_)
        | (go_at_call 51; refine (Hm.out).mono ?_; rintro r w1 ⟨rfl, hB⟩; have HB1 := Lib.hid hB; clear hB))
      go_ret
      exact ⟨rfl, HB.out.trans (HB1.out.mono HB.out.size)⟩

theorem SpAt.same {w w' : World} {B : Nat} {s : Sp} (h : SpAt w B s) (e : w = w') : SpAt w' B s := e ▸ h
set_option maxRecDepth 100000 in
theorem refinband_w (s : Sp) (a n : Int) (w : World) (h : s.ok) (ha : Sp.i64 a) (hn : Sp.i64 n) : Calls Try.prog 58 #[.agg s.cells, .int .i64 a, .int .i64 n] w fun r w' => r = .returned (.bool (s.inBand a n)) ∧ Below w.heap.size w w' := by
  have HB := Lib.hid ((Below.refl w.heap.size w).alloc (Nat.le_refl _) (.cells s.cells 66))
  have HS := Lib.hid (SpAt.new w s)
  have Hm := Lib.hid (refmay_w s (w.alloc (.cells s.cells 66)) h)
  have Ht := Lib.hid (@Sp.may_tick s)
  have hp : s.inBand a n = (s.mayB && decide (-s.band ≤ n - a ∧ n - a ≤ s.band)) := rfl
  rw [hp]
  generalize s.mayB = q at *
  clear hp
  cases q with
  | false =>
    clear ha hn
    go_enter Try.func58, Try.ntmps58
    go_wp2_with (first
      | (refine wpList_load_row rfl 66 (.tmp 3) rfl _ rfl _ _ _ _ HS.out Try.underlying66 rfl (show _ = some 25 by kernel_rfl) ?_)
      | (go_at_call 49; refine (Hm.out).mono ?_; rintro r w1 ⟨rfl, hB⟩; have HB1 := Lib.hid hB; clear hB))
    go_ret
    exact ⟨rfl, HB.out.trans (HB1.out.mono HB.out.size)⟩
  | true =>
    obtain ⟨-, -, hb0, hb1⟩ := Ht.out rfl
    obtain ⟨b, hb⟩ : ∃ z, s.band = z := ⟨_, rfl⟩
    have D := Lib.hid (show s.cells[4]? = some (.int .i64 b) by rw [← hb]; rfl)
    rw [hb] at hb0 hb1
    rw [hb, Bool.true_and]
    unfold Sp.i64 at ha hn
    obtain ⟨ha0, ha1⟩ := ha
    obtain ⟨hn0, hn1⟩ := hn
    clear hb
    have Ha := Lib.hid (And.intro ha0 ha1)
    have Hn := Lib.hid (And.intro hn0 hn1)
    have Hbb := Lib.hid (And.intro hb0 hb1)
    obtain ⟨R, hR⟩ : ∃ R, decide (-b ≤ n - a ∧ n - a ≤ b) = R := ⟨_, rfl⟩
    rw [hR]
    by_cases h1 : n < a
    · by_cases h2 : n < 0
      · by_cases h3 : 0 ≤ a
        · by_cases h4 : a ≤ b
          · by_cases h5 : -b ≤ n
            · have e : decide (a - n ≤ b) = R := by rw [← hR]; exact decide_eq_decide.2 (by omega)
              clear hR
              go_enter Try.func58, Try.ntmps58
              go_wp2_with (first
                | (refine wpList_load_row rfl 66 (.tmp 3) rfl _ rfl _ _ _ _ HS.out Try.underlying66 rfl (show _ = some 25 by kernel_rfl) ?_)
                | (go_at_call 49; refine (Hm.out).mono ?_; rintro r w1 ⟨rfl, hB⟩; have HB1 := Lib.hid hB; have d4 := ((HS.out.below hB).at 4).trans D.out; clear hB))
              go_ret
              exact ⟨by simp, HB.out.trans (HB1.out.mono HB.out.size)⟩
            · have e : R = false := by rw [← hR]; exact decide_eq_false (by omega)
              clear hR
              go_enter Try.func58, Try.ntmps58
              go_wp2_with (first
                | (refine wpList_load_row rfl 66 (.tmp 3) rfl _ rfl _ _ _ _ HS.out Try.underlying66 rfl (show _ = some 25 by kernel_rfl) ?_)
                | (go_at_call 49; refine (Hm.out).mono ?_; rintro r w1 ⟨rfl, hB⟩; have HB1 := Lib.hid hB; have d4 := ((HS.out.below hB).at 4).trans D.out; clear hB))
              go_ret
              exact ⟨by simp, HB.out.trans (HB1.out.mono HB.out.size)⟩
          · have e : R = false := by rw [← hR]; exact decide_eq_false (by omega)
            clear hR
            go_enter Try.func58, Try.ntmps58
            go_wp2_with (first
              | (refine wpList_load_row rfl 66 (.tmp 3) rfl _ rfl _ _ _ _ HS.out Try.underlying66 rfl (show _ = some 25 by kernel_rfl) ?_)
              | (go_at_call 49; refine (Hm.out).mono ?_; rintro r w1 ⟨rfl, hB⟩; have HB1 := Lib.hid hB; have d4 := ((HS.out.below hB).at 4).trans D.out; clear hB))
            go_ret
            exact ⟨by simp, HB.out.trans (HB1.out.mono HB.out.size)⟩
        · have e : decide (a - n ≤ b) = R := by rw [← hR]; exact decide_eq_decide.2 (by omega)
          clear hR
          go_enter Try.func58, Try.ntmps58
          go_wp2_with (first
            | (refine wpList_load_row rfl 66 (.tmp 3) rfl _ rfl _ _ _ _ HS.out Try.underlying66 rfl (show _ = some 25 by kernel_rfl) ?_)
            | (go_at_call 49; refine (Hm.out).mono ?_; rintro r w1 ⟨rfl, hB⟩; have HB1 := Lib.hid hB; have d4 := ((HS.out.below hB).at 4).trans D.out; clear hB))
          go_ret
          exact ⟨by simp, HB.out.trans (HB1.out.mono HB.out.size)⟩
      · have e : decide (a - n ≤ b) = R := by rw [← hR]; exact decide_eq_decide.2 (by omega)
        clear hR
        go_enter Try.func58, Try.ntmps58
        go_wp2_with (first
          | (refine wpList_load_row rfl 66 (.tmp 3) rfl _ rfl _ _ _ _ HS.out Try.underlying66 rfl (show _ = some 25 by kernel_rfl) ?_)
          | (go_at_call 49; refine (Hm.out).mono ?_; rintro r w1 ⟨rfl, hB⟩; have HB1 := Lib.hid hB; have d4 := ((HS.out.below hB).at 4).trans D.out; clear hB))
        go_ret
        exact ⟨by simp, HB.out.trans (HB1.out.mono HB.out.size)⟩
    · by_cases h2 : a < 0
      · by_cases h3 : 0 ≤ n
        · by_cases h4 : n ≤ b
          · by_cases h5 : -b ≤ a
            · have e : decide (n - a ≤ b) = R := by rw [← hR]; exact decide_eq_decide.2 (by omega)
              clear hR
              go_enter Try.func58, Try.ntmps58
              go_wp2_with (first
                | (refine wpList_load_row rfl 66 (.tmp 3) rfl _ rfl _ _ _ _ HS.out Try.underlying66 rfl (show _ = some 25 by kernel_rfl) ?_)
                | (go_at_call 49; refine (Hm.out).mono ?_; rintro r w1 ⟨rfl, hB⟩; have HB1 := Lib.hid hB; have d4 := ((HS.out.below hB).at 4).trans D.out; clear hB))
              go_ret
              exact ⟨by simp, HB.out.trans (HB1.out.mono HB.out.size)⟩
            · have e : R = false := by rw [← hR]; exact decide_eq_false (by omega)
              clear hR
              go_enter Try.func58, Try.ntmps58
              go_wp2_with (first
                | (refine wpList_load_row rfl 66 (.tmp 3) rfl _ rfl _ _ _ _ HS.out Try.underlying66 rfl (show _ = some 25 by kernel_rfl) ?_)
                | (go_at_call 49; refine (Hm.out).mono ?_; rintro r w1 ⟨rfl, hB⟩; have HB1 := Lib.hid hB; have d4 := ((HS.out.below hB).at 4).trans D.out; clear hB))
              go_ret
              exact ⟨by simp, HB.out.trans (HB1.out.mono HB.out.size)⟩
          · have e : R = false := by rw [← hR]; exact decide_eq_false (by omega)
            clear hR
            go_enter Try.func58, Try.ntmps58
            go_wp2_with (first
              | (refine wpList_load_row rfl 66 (.tmp 3) rfl _ rfl _ _ _ _ HS.out Try.underlying66 rfl (show _ = some 25 by kernel_rfl) ?_)
              | (go_at_call 49; refine (Hm.out).mono ?_; rintro r w1 ⟨rfl, hB⟩; have HB1 := Lib.hid hB; have d4 := ((HS.out.below hB).at 4).trans D.out; clear hB))
            go_ret
            exact ⟨by simp, HB.out.trans (HB1.out.mono HB.out.size)⟩
        · have e : decide (n - a ≤ b) = R := by rw [← hR]; exact decide_eq_decide.2 (by omega)
          clear hR
          go_enter Try.func58, Try.ntmps58
          go_wp2_with (first
            | (refine wpList_load_row rfl 66 (.tmp 3) rfl _ rfl _ _ _ _ HS.out Try.underlying66 rfl (show _ = some 25 by kernel_rfl) ?_)
            | (go_at_call 49; refine (Hm.out).mono ?_; rintro r w1 ⟨rfl, hB⟩; have HB1 := Lib.hid hB; have d4 := ((HS.out.below hB).at 4).trans D.out; clear hB))
          go_ret
          exact ⟨by simp, HB.out.trans (HB1.out.mono HB.out.size)⟩
      · have e : decide (n - a ≤ b) = R := by rw [← hR]; exact decide_eq_decide.2 (by omega)
        clear hR
        go_enter Try.func58, Try.ntmps58
        go_wp2_with (first
          | (refine wpList_load_row rfl 66 (.tmp 3) rfl _ rfl _ _ _ _ HS.out Try.underlying66 rfl (show _ = some 25 by kernel_rfl) ?_)
          | (go_at_call 49; refine (Hm.out).mono ?_; rintro r w1 ⟨rfl, hB⟩; have HB1 := Lib.hid hB; have d4 := ((HS.out.below hB).at 4).trans D.out; clear hB))
        go_ret
        exact ⟨by simp, HB.out.trans (HB1.out.mono HB.out.size)⟩
end Go.Proofs.Ytpbdnndpdidagaa
