/- The data of a contract: the document's May. -/
import Derived.Test.YtoflehlkacofjaaQcS2
namespace Go.Proofs.Ytoflehlkacofjaa
open Go.ChangeShapes Go.WideShapes Go.ChangeAt Go.RowKit
set_option linter.unusedVariables false
theorem far_in (x : Int) : Form.farB x 10000000 = Form.inB x (-10000000) 10000000 := by
  unfold Form.farB Form.inB
  rw [Bool.eq_iff_iff]; simp
theorem SpAt.sh {w : World} {B : Nat} {s : Sp} (h : SpAt w B s) (k : Nat) (hk : k < 16) : w.cell? ⟨B, 6 + k, none⟩ = some (.int .i64 (s.sh k)) := by rw [h.at, s.sh_at k hk]

set_option maxRecDepth 100000 in
set_option maxHeartbeats 3200000 in
theorem refmay_w (s : Sp) (w : World) (h : s.ok) : Calls Try.prog 57 #[.agg s.cells] w fun r w' => r = .returned (.bool s.mayB) ∧ Below w.heap.size w w' := by
  have HB := Lib.hid ((Below.refl w.heap.size w).alloc (Nat.le_refl _) (.cells s.cells 27))
  have HS := Lib.hid (SpAt.new w s)
  have d0 := (HS.out.at 0).trans (show s.cells[0]? = some (.int .u32 s.number) from rfl)
  have d1 := (HS.out.at 1).trans (show s.cells[1]? = some (.int .u8 s.route) from rfl)
  have d2 := (HS.out.at 2).trans (show s.cells[2]? = some (.int .i64 s.tick) from rfl)
  have d3 := (HS.out.at 3).trans (show s.cells[3]? = some (.int .i64 s.lot) from rfl)
  have d4 := (HS.out.at 4).trans (show s.cells[4]? = some (.int .i64 s.band) from rfl)
  have d5 := (HS.out.at 5).trans (show s.cells[5]? = some (.int .i64 s.limit) from rfl)
  have d22 := (HS.out.at 22).trans (show s.cells[22]? = some (.int .i64 s.credit) from rfl)
  have d24 := (HS.out.at 24).trans (show s.cells[24]? = some (.int .i64 s.first) from rfl)
  have Hok := Lib.hid h
  clear h
  by_cases hn : s.number = 0
  · have hf : s.mayB = false := by unfold Sp.mayB; simp [hn]
    have Hf := Lib.hid hf
    have e1 : decide (s.number = 0) = true := by simp [hn]
    have e2 : (s.number == 0) = true := by simp [hn]
    clear hf hn
    go_enter Try.func57, Try.ntmps57
    go_wp2
    go_ret
    exact ⟨by rw [Hf.out]; rfl, HB.out⟩
  · have e1 : decide (s.number = 0) = false := by simp [hn]
    have e2 : (s.number == 0) = false := by simp [hn]
    have Hn := Lib.hid hn
    clear hn
    by_cases hr : 1 ≤ s.route ∧ s.route ≤ 8
    · obtain ⟨hr1, hr2⟩ := hr
      have Hrt := Lib.hid (show Form.inB s.route 1 8 = true by unfold Form.inB; simp; omega)
      have hmay : s.mayB = (s.all 16 && (s.up 16 && (s.down 16 && (Form.inB s.tick 1 10000000 && (Form.inB s.lot 1 1000000 && (Form.inB s.band 0 10000000 && (Form.inB s.limit 1 10000000 && (Form.inB s.credit 0 10000000 && Form.priceB s.tick s.first)))))))) := by unfold Sp.mayB; rw [Hrt.out]; simp [Hn.out]
      have Hmay := Lib.hid hmay
      have e3 : decide (s.route < 1) = false := by simp; omega
      have e4 : decide (8 < s.route) = false := by simp; omega
      clear hmay
      go_enter Try.func57, Try.ntmps57
      go_wp2_with (go_at_call 79; refine (among_w _ _ _ _).mono ?_; rintro r w1 ⟨rfl, rfl⟩)
      all_goals try (
        go_ret
        refine ⟨?_, HB.out⟩
        first
          | (rw [Hmay.out]; simp [*]; done)
          | (have h8 : (!Form.inB s.credit 0 10000000) = true := by assumption
             have h9 : Form.inB s.credit 0 10000000 = false := by simpa using h8
             rw [Hmay.out, h9]; simp))
      have htk : 1 ≤ s.tick := by
        have h : Form.inB s.tick 1 10000000 = true := by assumption
        unfold Form.inB at h; simp at h; omega
      have t1 : Form.inB s.tick 1 10000000 = true := by assumption
      have t2 : Form.inB s.lot 1 1000000 = true := by assumption
      have t3 : Form.inB s.band 0 10000000 = true := by assumption
      have t4 : Form.inB s.limit 1 10000000 = true := by assumption
      have t5 : Form.inB s.credit 0 10000000 = true := by
        have h : (!Form.inB s.credit 0 10000000) = false := by assumption
        simpa using h
      have hm2 := Hmay.out
      rw [t1, t2, t3, t4, t5] at hm2
      simp only [Bool.true_and] at hm2
      have Hm2 := Lib.hid hm2
      simp only [t5, Bool.not_true]
      clear hm2 t1 t2 t3 t4 t5
      go_loop [3, 4, 5] (fun u d i => ∃ k c1 c2 : Nat, k ≤ 16 ∧ i = .int .i64 (k : Int) ∧ u = .int .i64 (c1 : Int) ∧ d = .int .i64 (c2 : Int) ∧ c1 ≤ k ∧ c2 ≤ k ∧ Hid (s.up k = decide (0 < c1)) ∧ Hid (s.down k = decide (0 < c2)) ∧ Hid (s.all k = true)) (fun _ _ i => 16 - (intOf i).toNat)
      case atStart => exact ⟨0, 0, 0, by decide, rfl, rfl, rfl, by decide, by decide, Lib.hid rfl, Lib.hid rfl, Lib.hid rfl⟩
      case round =>
        obtain ⟨k, c1, c2, hk, rfl, rfl, rfl, hc1, hc2, Hu, Hd, Hall⟩ := hrel
        by_cases hlt : k < 16
        · have hck := HS.out.sh k hlt
          have Hup := Lib.hid (s.up_succ k)
          have Hdn := Lib.hid (s.down_succ k)
          have Hal := Lib.hid (s.all_succ k)
          rw [Hall.out, far_in] at Hal
          rw [Hu.out] at Hup
          rw [Hd.out] at Hdn
          have Hle := Lib.hid (fun h => s.all_le (n := k + 1) (m := 16) (by omega) h)
          have H64 := Lib.hid (among_w (s.sh k) (-10000000) 10000000)
          generalize s.sh k = x at *
          generalize Form.inB x (-10000000) 10000000 = q at *
          cases q with
          | false =>
            go_wp2_with (go_at_call 79; refine (H64.out _).mono ?_; rintro r w1 ⟨rfl, rfl⟩)
            go_ret
            exact ⟨by rw [Hm2.out, Hle.out (by rw [Hal.out]; rfl)]; rfl, HB.out⟩
          | true =>
            have hx : x < 0 ∨ x = 0 ∨ 0 < x := by omega
            rcases hx with hx | rfl | hx
            · go_wp2_with (go_at_call 79; refine (H64.out _).mono ?_; rintro r w1 ⟨rfl, rfl⟩)
              go_round
              case rel => exact ⟨k + 1, c1, c2 + 1, by omega, by go_num, rfl, by go_num, by omega, by omega, Lib.hid (by rw [Hup.out, Bool.eq_iff_iff]; simp <;> omega), Lib.hid (by rw [Hdn.out, Bool.eq_iff_iff]; simp <;> omega), Lib.hid (by rw [Hal.out]; rfl)⟩
              case measure => simp [intOf]; omega
            · go_wp2_with (go_at_call 79; refine (H64.out _).mono ?_; rintro r w1 ⟨rfl, rfl⟩)
              go_round
              case rel => exact ⟨k + 1, c1, c2, by omega, by go_num, rfl, rfl, by omega, by omega, Lib.hid (by rw [Hup.out, Bool.eq_iff_iff]; simp <;> omega), Lib.hid (by rw [Hdn.out, Bool.eq_iff_iff]; simp <;> omega), Lib.hid (by rw [Hal.out]; rfl)⟩
              case measure => simp [intOf]; omega
            · go_wp2_with (go_at_call 79; refine (H64.out _).mono ?_; rintro r w1 ⟨rfl, rfl⟩)
              go_round
              case rel => exact ⟨k + 1, c1 + 1, c2, by omega, by go_num, by go_num, rfl, by omega, by omega, Lib.hid (by rw [Hup.out, Bool.eq_iff_iff]; simp <;> omega), Lib.hid (by rw [Hdn.out, Bool.eq_iff_iff]; simp <;> omega), Lib.hid (by rw [Hal.out]; rfl)⟩
              case measure => simp [intOf]; omega
        · have hk16 : k = 16 := by omega
          subst hk16
          have hm3 := Hm2.out
          rw [Hall.out, Hu.out, Hd.out] at hm3
          have Hm3 := Lib.hid hm3
          have hpb := (Hok.out.first).2
          clear hm3 Hu Hd
          by_cases h1 : 0 < c1
          · by_cases h2 : 0 < c2
            · go_wp2_with (go_at_call 80; refine (refprice_w _ _ _ htk hpb).mono ?_; rintro r w1 ⟨rfl, rfl⟩)
              go_ret
              exact ⟨by rw [Hm3.out]; simp [h1, h2], HB.out⟩
            · go_wp2
              go_ret
              exact ⟨by rw [Hm3.out]; simp [h2], HB.out⟩
          · go_wp2
            go_ret
            exact ⟨by rw [Hm3.out]; simp [h1], HB.out⟩
    · have hf : s.mayB = false := by unfold Sp.mayB; rw [show Form.inB s.route 1 8 = false by unfold Form.inB; simp; omega]; simp
      have Hf := Lib.hid hf
      have hrr : s.route < 1 ∨ 8 < s.route := by omega
      clear hf hr
      have hrb := Hok.out.route
      rcases hrr with hr | hr
      all_goals go_enter Try.func57, Try.ntmps57
      all_goals go_wp2
      all_goals go_ret
      all_goals exact ⟨by rw [Hf.out]; rfl, HB.out⟩
end Go.Proofs.Ytoflehlkacofjaa
