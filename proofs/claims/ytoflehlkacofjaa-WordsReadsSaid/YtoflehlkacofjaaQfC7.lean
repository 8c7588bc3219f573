/- Two replies alike, by the document. -/
import Derived.Test.YtoflehlkacofjaaQfA12
namespace Go.Proofs.Ytoflehlkacofjaa
open Go.ChangeShapes Go.WideShapes Go.ChangeAt Go.RowKit
set_option linter.unusedVariables false
set_option maxRecDepth 100000 in
set_option maxHeartbeats 25600000 in
theorem refsame16_w (x y : Rp) (tv gv av tv2 gv2 av2 : Value) (w : World) (h1 : RpA w tv gv av x) (h2 : RpA w tv2 gv2 av2 y) :
    Calls Try.prog 16 #[.agg (rpc x tv gv av), .agg (rpc y tv2 gv2 av2)] w fun e w' => (∃ r, e = .returned (.bool r) ∧ (r = true ↔ x = y)) ∧ Below w.heap.size w w' := by
  obtain ⟨W1, hW1⟩ : ∃ W1, (w.alloc (.cells (rpc x tv gv av) 36)).alloc (.cells (rpc y tv2 gv2 av2) 36) = W1 := ⟨_, rfl⟩
  have hat := two_at w (rpc x tv gv av) (rpc y tv2 gv2 av2)
  rw [hW1] at hat
  obtain ⟨hx1, hx2, hb0⟩ := hat
  have HX1 := Lib.hid hx1
  have HX2 := Lib.hid hx2
  have HB0 := Lib.hid hb0
  have HBs := Lib.hid (Below.refl W1.heap.size W1)
  have HA1 := Lib.hid (h1.keeps (show Keeps w W1 from hb0.block))
  have HA2 := Lib.hid (h2.keeps (show Keeps w W1 from hb0.block))
  have HW1 := Lib.hid hW1
  have X0 := Lib.hid (show (rpc x tv gv av)[0]? = some (.int .i64 x.errno) from rfl)
  have Y0 := Lib.hid (show (rpc y tv2 gv2 av2)[0]? = some (.int .i64 y.errno) from rfl)
  have X1 := Lib.hid (show (rpc x tv gv av)[1]? = some (.int .u64 (x.number : Int)) from rfl)
  have Y1 := Lib.hid (show (rpc y tv2 gv2 av2)[1]? = some (.int .u64 (y.number : Int)) from rfl)
  have X2 := Lib.hid (show (rpc x tv gv av)[2]? = some (.int .i64 x.filled) from rfl)
  have Y2 := Lib.hid (show (rpc y tv2 gv2 av2)[2]? = some (.int .i64 y.filled) from rfl)
  have X3 := Lib.hid (show (rpc x tv gv av)[3]? = some (.int .i64 x.left) from rfl)
  have Y3 := Lib.hid (show (rpc y tv2 gv2 av2)[3]? = some (.int .i64 y.left) from rfl)
  have X4 := Lib.hid (show (rpc x tv gv av)[4]? = some (tv) from rfl)
  have Y4 := Lib.hid (show (rpc y tv2 gv2 av2)[4]? = some (tv2) from rfl)
  have X5 := Lib.hid (show (rpc x tv gv av)[5]? = some (gv) from rfl)
  have Y5 := Lib.hid (show (rpc y tv2 gv2 av2)[5]? = some (gv2) from rfl)
  have X6 := Lib.hid (show (rpc x tv gv av)[6]? = some (av) from rfl)
  have Y6 := Lib.hid (show (rpc y tv2 gv2 av2)[6]? = some (av2) from rfl)
  obtain ⟨⟨pt, ct, rfl⟩, ⟨pg, cg, rfl⟩, ⟨pa, ca, rfl⟩⟩ := h1.forms
  obtain ⟨⟨pt2, ct2, rfl⟩, ⟨pg2, cg2, rfl⟩, ⟨pa2, ca2, rfl⟩⟩ := h2.forms
  have lt1 := h1.ok.lt
  have lg1 := h1.ok.lg
  have la1 := h1.ok.la
  have lt2 := h2.ok.lt
  have lg2 := h2.ok.lg
  have la2 := h2.ok.la
  clear h1 h2 hx1 hx2 hb0 hW1
  generalize rpc x _ _ _ = cx at *
  generalize rpc y _ _ _ = cy at *
  have c0 := (HX1.out.at 0).trans X0.out
  have k0 := (HX2.out.at 0).trans Y0.out
  have c1 := (HX1.out.at 1).trans X1.out
  have k1 := (HX2.out.at 1).trans Y1.out
  have c2 := (HX1.out.at 2).trans X2.out
  have k2 := (HX2.out.at 2).trans Y2.out
  have c3 := (HX1.out.at 3).trans X3.out
  have k3 := (HX2.out.at 3).trans Y3.out
  have c4 := (HX1.out.at 4).trans X4.out
  have k4 := (HX2.out.at 4).trans Y4.out
  have c5 := (HX1.out.at 5).trans X5.out
  have k5 := (HX2.out.at 5).trans Y5.out
  have c6 := (HX1.out.at 6).trans X6.out
  have k6 := (HX2.out.at 6).trans Y6.out
  by_cases g0 : x.errno = y.errno
  · skip
    by_cases g1 : x.number = y.number
    · skip
      by_cases g2 : x.filled = y.filled
      · skip
        by_cases g3 : x.left = y.left
        · skip
          by_cases g4 : x.trades.length = y.trades.length
          · skip
            by_cases g5 : x.gone.length = y.gone.length
            · skip
              by_cases g6 : x.accounts.length = y.accounts.length
              · skip
                have d0 : (x.errno != y.errno) = false := by simp [g0]
                have d1 : ((x.number : Int) != (y.number : Int)) = false := by simp; omega
                have d2 : (x.filled != y.filled) = false := by simp [g2]
                have d3 : (x.left != y.left) = false := by simp [g3]
                have d4 : ((x.trades.length : Int) != (y.trades.length : Int)) = false := by simp; omega
                have d5 : ((x.gone.length : Int) != (y.gone.length : Int)) = false := by simp; omega
                have d6 : ((x.accounts.length : Int) != (y.accounts.length : Int)) = false := by simp; omega
                have L4 := Lib.hid g4
                have L5 := Lib.hid g5
                have L6 := Lib.hid g6
                have Hall := Lib.hid (fun e4 e5 e6 => (Rp.ext_iff'.2 ⟨g0, g1, g2, g3, e4, e5, e6⟩ : x = y))
                clear g0 g1 g2 g3 g4 g5 g6
                generalize x.errno = en at *
                generalize x.number = nu at *
                generalize x.filled = fi at *
                generalize x.left = le at *
                generalize y.errno = en2 at *
                generalize y.number = nu2 at *
                generalize y.filled = fi2 at *
                generalize y.left = le2 at *
                go_enter Try.func16, Try.ntmps16
                go_upto_region 1 with fail
                rw [HW1.out]
                go_wp2
                clear c0 k0 c1 k1 c2 k2 c3 k3 c4 k4 c5 k5 c6 k6
                clear d0 d1 d2 d3 d4 d5 d6
                go_loopw [5] (fun ix wr => ∃ q : Nat, q ≤ x.trades.length ∧ ix = .int .i64 (q : Int) ∧ Hid (x.trades.take q = y.trades.take q) ∧ Hid (Below W1.heap.size W1 wr)) (fun ix _ => x.trades.length - (intOf ix).toNat)
                case atStart => exact ⟨0, Nat.zero_le _, rfl, Lib.hid (by simp), HBs⟩
                case round =>
                  obtain ⟨q, hq, rfl, HT, HBq⟩ := hrel
                  have c4 := ((HX1.out.keeps HBq.out.block).at 4).trans X4.out
                  have HQ := Lib.hid (fun (W : World) (hR : RegT.Grow wr.drew W) => (show W.cell? ⟨w.heap.size, 4, none⟩ = some _ ∧ W.cell? ⟨w.heap.size + 1, 4, none⟩ = some _ from ⟨((HX1.out.keeps (HBq.out.trans (((Below.refl _ _).drew.trans hR).mono HBq.out.size)).block).at 4).trans X4.out, ((HX2.out.keeps (HBq.out.trans (((Below.refl _ _).drew.trans hR).mono HBq.out.size)).block).at 4).trans Y4.out⟩))
                  by_cases hlt : q < x.trades.length
                  · have hlt2 : q < y.trades.length := by have := L4.out; omega
                    obtain ⟨b1, o1, e1, hc1⟩ := HA1.out.t.at q hlt
                    obtain ⟨b2, o2, e2, hc2⟩ := HA2.out.t.at q hlt2
                    cases e1
                    cases e2
                    have y1 : ∀ W, RegT.Grow wr.drew W → W.rangeAt b1 (o1 + q * 4) x.trades[q].cells := fun W hR j u hu => ((HBq.out.trans (((Below.refl _ _).drew.trans hR).mono HBq.out.size)).cell (p := ⟨b1, o1 + q * 4 + j, none⟩) (block_lt_of_cell (hc1 j u hu))).trans (hc1 j u hu)
                    have y2 : ∀ W, RegT.Grow wr.drew W → W.rangeAt b2 (o2 + q * 4) y.trades[q].cells := fun W hR j u hu => ((HBq.out.trans (((Below.refl _ _).drew.trans hR).mono HBq.out.size)).cell (p := ⟨b2, o2 + q * 4 + j, none⟩) (block_lt_of_cell (hc2 j u hu))).trans (hc2 j u hu)
                    cases hse : x.trades[q].sameB y.trades[q] with
                    | true =>
                      have he : x.trades[q] = y.trades[q] := (Tr.same_iff _ _).1 hse
                      have Hst := Lib.hid (take_eq_step q hlt hlt2 HT.out he)
                      clear he hc1 hc2
                      unfold Tr.cells at y1 y2
                      generalize x.trades[q] = tx at *
                      generalize y.trades[q] = ty at *
                      obtain ⟨p, q1, nuu, acc⟩ := tx
                      obtain ⟨p2, q2, nuu2, acc2⟩ := ty
                      dsimp only at y1 y2
                      have Y1 := Lib.hid y1
                      have Y2 := Lib.hid y2
                      clear y1 y2
                      have HNe := Lib.hid (fun W => (show (binOp .neq 62 (.agg #[.int .i64 p, .int .i64 q1, .int .u64 (nuu : Int), .int .u32 (acc : Int)]) (.agg #[.int .i64 p2, .int .i64 q2, .int .u64 (nuu2 : Int), .int .u32 (acc2 : Int)])).run Try.prog W = .ok (.bool false) W by rw [neq62, hse]; rfl))
                      go_wp2
                      apply RegT.wp_region_T rfl 115 11 rfl (by kernel_rfl) RegT.Grow RegT.Grow.refl RegT.Grow.trans
                      · apply RegT.T_pure rfl rfl rfl
                        · intro W hR; clear hR; go_simp; rfl
                        simp only [List.set_cons_succ, List.set_cons_zero, Nat.reduceAdd]
                        apply RegT.T_pure rfl rfl rfl
                        · intro W hR; have hc := (HQ.out W hR).1; clear hR; go_simp; rfl
                        simp only [List.set_cons_succ, List.set_cons_zero, Nat.reduceAdd]
                        apply RegT.T_pure rfl rfl rfl
                        · intro W hR; clear hR; go_simp; rfl
                        simp only [List.set_cons_succ, List.set_cons_zero, Nat.reduceAdd]
                        apply RegT.T_pure rfl rfl rfl
                        · intro W hR; clear hR; go_simp; rfl
                        simp only [List.set_cons_succ, List.set_cons_zero, Nat.reduceAdd]
                        apply RegT.T_pure rfl rfl rfl
                        · exact fun W hR => exec_load62 (.tmp 71) rfl rfl (Y1.out W hR)
                        simp only [List.set_cons_succ, List.set_cons_zero, Nat.reduceAdd]
                        apply RegT.T_pure rfl rfl rfl
                        · intro W hR; clear hR; go_simp; rfl
                        simp only [List.set_cons_succ, List.set_cons_zero, Nat.reduceAdd]
                        apply RegT.T_pure rfl rfl rfl
                        · intro W hR; have hc := (HQ.out W hR).2; clear hR; go_simp; rfl
                        simp only [List.set_cons_succ, List.set_cons_zero, Nat.reduceAdd]
                        apply RegT.T_pure rfl rfl rfl
                        · intro W hR; clear hR; go_simp; rfl
                        simp only [List.set_cons_succ, List.set_cons_zero, Nat.reduceAdd]
                        apply RegT.T_pure rfl rfl rfl
                        · intro W hR; clear hR; go_simp; rfl
                        simp only [List.set_cons_succ, List.set_cons_zero, Nat.reduceAdd]
                        apply RegT.T_pure rfl rfl rfl
                        · exact fun W hR => exec_load62 (.tmp 76) rfl rfl (Y2.out W hR)
                        simp only [List.set_cons_succ, List.set_cons_zero, Nat.reduceAdd]
                        apply RegT.T_pure (v := .bool false) rfl rfl rfl
                        · intro W hR; clear hR; (exact exec_neq62 (.tmp 72) (.tmp 77) rfl rfl rfl (HNe.out W))
                        simp only [List.set_cons_succ, List.set_cons_zero, Nat.reduceAdd]
                        refine RegT.T_end rfl (fun W5 hR hf => ?_)
                        have HB5 := Lib.hid (HBq.out.trans (((Below.refl _ _).drew.trans hR).mono HBq.out.size))
                        clear hR hf Y1 Y2 HQ
                        go_wp2
                        go_roundw
                        case rel => exact ⟨q + 1, by omega, by go_num, Hst, HB5⟩
                        case measure => simp [intOf]; omega
                      · rfl
                      · kernel_rfl
                    | false =>
                      have Hno := Lib.hid (show ¬ x = y from fun e => by
                        subst e
                        rw [(Tr.same_iff _ _).2 rfl] at hse
                        cases hse)
                      clear hc1 hc2
                      unfold Tr.cells at y1 y2
                      generalize x.trades[q] = tx at *
                      generalize y.trades[q] = ty at *
                      obtain ⟨p, q1, nuu, acc⟩ := tx
                      obtain ⟨p2, q2, nuu2, acc2⟩ := ty
                      dsimp only at y1 y2
                      have Y1 := Lib.hid y1
                      have Y2 := Lib.hid y2
                      clear y1 y2
                      have HNe := Lib.hid (fun W => (show (binOp .neq 62 (.agg #[.int .i64 p, .int .i64 q1, .int .u64 (nuu : Int), .int .u32 (acc : Int)]) (.agg #[.int .i64 p2, .int .i64 q2, .int .u64 (nuu2 : Int), .int .u32 (acc2 : Int)])).run Try.prog W = .ok (.bool true) W by rw [neq62, hse]; rfl))
                      go_wp2
                      apply RegT.wp_region_T rfl 115 11 rfl (by kernel_rfl) RegT.Grow RegT.Grow.refl RegT.Grow.trans
                      · apply RegT.T_pure rfl rfl rfl
                        · intro W hR; clear hR; go_simp; rfl
                        simp only [List.set_cons_succ, List.set_cons_zero, Nat.reduceAdd]
                        apply RegT.T_pure rfl rfl rfl
                        · intro W hR; have hc := (HQ.out W hR).1; clear hR; go_simp; rfl
                        simp only [List.set_cons_succ, List.set_cons_zero, Nat.reduceAdd]
                        apply RegT.T_pure rfl rfl rfl
                        · intro W hR; clear hR; go_simp; rfl
                        simp only [List.set_cons_succ, List.set_cons_zero, Nat.reduceAdd]
                        apply RegT.T_pure rfl rfl rfl
                        · intro W hR; clear hR; go_simp; rfl
                        simp only [List.set_cons_succ, List.set_cons_zero, Nat.reduceAdd]
                        apply RegT.T_pure rfl rfl rfl
                        · exact fun W hR => exec_load62 (.tmp 71) rfl rfl (Y1.out W hR)
                        simp only [List.set_cons_succ, List.set_cons_zero, Nat.reduceAdd]
                        apply RegT.T_pure rfl rfl rfl
                        · intro W hR; clear hR; go_simp; rfl
                        simp only [List.set_cons_succ, List.set_cons_zero, Nat.reduceAdd]
                        apply RegT.T_pure rfl rfl rfl
                        · intro W hR; have hc := (HQ.out W hR).2; clear hR; go_simp; rfl
                        simp only [List.set_cons_succ, List.set_cons_zero, Nat.reduceAdd]
                        apply RegT.T_pure rfl rfl rfl
                        · intro W hR; clear hR; go_simp; rfl
                        simp only [List.set_cons_succ, List.set_cons_zero, Nat.reduceAdd]
                        apply RegT.T_pure rfl rfl rfl
                        · intro W hR; clear hR; go_simp; rfl
                        simp only [List.set_cons_succ, List.set_cons_zero, Nat.reduceAdd]
                        apply RegT.T_pure rfl rfl rfl
                        · exact fun W hR => exec_load62 (.tmp 76) rfl rfl (Y2.out W hR)
                        simp only [List.set_cons_succ, List.set_cons_zero, Nat.reduceAdd]
                        apply RegT.T_pure (v := .bool true) rfl rfl rfl
                        · intro W hR; clear hR; (exact exec_neq62 (.tmp 72) (.tmp 77) rfl rfl rfl (HNe.out W))
                        simp only [List.set_cons_succ, List.set_cons_zero, Nat.reduceAdd]
                        refine RegT.T_end rfl (fun W5 hR hf => ?_)
                        have HB5 := Lib.hid (HBq.out.trans (((Below.refl _ _).drew.trans hR).mono HBq.out.size))
                        clear hR hf Y1 Y2 HQ
                        go_wp2
                        go_ret
                        exact ⟨⟨false, rfl, (fun e => by cases e), fun e => absurd e Hno.out⟩, HB0.out.trans (HB5.out.mono HB0.out.size)⟩
                      · rfl
                      · kernel_rfl
                  · have hqe : q = x.trades.length := by omega
                    have E4 := Lib.hid (show x.trades = y.trades from by
                      have h := HT.out
                      rwa [hqe, List.take_of_length_le (Nat.le_refl _), List.take_of_length_le (by have := L4.out; omega)] at h)
                    have c5 := ((HX1.out.keeps HBq.out.block).at 5).trans X5.out
                    clear HT HQ hlt
                    have HBl4 := HBq
                    clear HBq
                    go_wp2
                    go_loopw [6] (fun ix wr => ∃ q : Nat, q ≤ x.gone.length ∧ ix = .int .i64 (q : Int) ∧ Hid (x.gone.take q = y.gone.take q) ∧ Hid (Below W1.heap.size W1 wr)) (fun ix _ => x.gone.length - (intOf ix).toNat)
                    case atStart => exact ⟨0, Nat.zero_le _, rfl, Lib.hid (by simp), HBl4⟩
                    case round =>
                      obtain ⟨q, hq, rfl, HT, HBq⟩ := hrel
                      have c5 := ((HX1.out.keeps HBq.out.block).at 5).trans X5.out
                      have HQ := Lib.hid (fun (W : World) (hR : RegT.Grow wr.drew W) => (show W.cell? ⟨w.heap.size, 5, none⟩ = some _ ∧ W.cell? ⟨w.heap.size + 1, 5, none⟩ = some _ from ⟨((HX1.out.keeps (HBq.out.trans (((Below.refl _ _).drew.trans hR).mono HBq.out.size)).block).at 5).trans X5.out, ((HX2.out.keeps (HBq.out.trans (((Below.refl _ _).drew.trans hR).mono HBq.out.size)).block).at 5).trans Y5.out⟩))
                      by_cases hlt : q < x.gone.length
                      · have hlt2 : q < y.gone.length := by have := L5.out; omega
                        obtain ⟨b1, o1, e1, hc1⟩ := HA1.out.g.at q hlt
                        obtain ⟨b2, o2, e2, hc2⟩ := HA2.out.g.at q hlt2
                        cases e1
                        cases e2
                        have y1 : ∀ W, RegT.Grow wr.drew W → W.cell? ⟨b1, o1 + q, none⟩ = some (.int .u64 (x.gone[q] : Int)) := fun W hR => ((HBq.out.trans (((Below.refl _ _).drew.trans hR).mono HBq.out.size)).cell (p := ⟨b1, o1 + q, none⟩) (block_lt_of_cell hc1)).trans hc1
                        have y2 : ∀ W, RegT.Grow wr.drew W → W.cell? ⟨b2, o2 + q, none⟩ = some (.int .u64 (y.gone[q] : Int)) := fun W hR => ((HBq.out.trans (((Below.refl _ _).drew.trans hR).mono HBq.out.size)).cell (p := ⟨b2, o2 + q, none⟩) (block_lt_of_cell hc2)).trans hc2
                        by_cases he : x.gone[q] = y.gone[q]
                        · have Hst := Lib.hid (take_eq_step q hlt hlt2 HT.out he)
                          have hdd : ((x.gone[q] : Int) != (y.gone[q] : Int)) = false := by simp; omega
                          clear he hc1 hc2
                          generalize x.gone[q] = ex at *
                          generalize y.gone[q] = ey at *
                          have Y1 := Lib.hid y1
                          have Y2 := Lib.hid y2
                          clear y1 y2
                          go_wp2
                          apply RegT.wp_region_T rfl 115 11 rfl (by kernel_rfl) RegT.Grow RegT.Grow.refl RegT.Grow.trans
                          · apply RegT.T_pure rfl rfl rfl
                            · intro W hR; clear hR; go_simp; rfl
                            simp only [List.set_cons_succ, List.set_cons_zero, Nat.reduceAdd]
                            apply RegT.T_pure rfl rfl rfl
                            · intro W hR; have hc := (HQ.out W hR).1; clear hR; go_simp; rfl
                            simp only [List.set_cons_succ, List.set_cons_zero, Nat.reduceAdd]
                            apply RegT.T_pure rfl rfl rfl
                            · intro W hR; clear hR; go_simp; rfl
                            simp only [List.set_cons_succ, List.set_cons_zero, Nat.reduceAdd]
                            apply RegT.T_pure rfl rfl rfl
                            · intro W hR; clear hR; go_simp; rfl
                            simp only [List.set_cons_succ, List.set_cons_zero, Nat.reduceAdd]
                            apply RegT.T_pure rfl rfl rfl
                            · intro W hR; have hc := Y1.out W hR; clear hR; go_simp; rfl
                            simp only [List.set_cons_succ, List.set_cons_zero, Nat.reduceAdd]
                            apply RegT.T_pure rfl rfl rfl
                            · intro W hR; clear hR; go_simp; rfl
                            simp only [List.set_cons_succ, List.set_cons_zero, Nat.reduceAdd]
                            apply RegT.T_pure rfl rfl rfl
                            · intro W hR; have hc := (HQ.out W hR).2; clear hR; go_simp; rfl
                            simp only [List.set_cons_succ, List.set_cons_zero, Nat.reduceAdd]
                            apply RegT.T_pure rfl rfl rfl
                            · intro W hR; clear hR; go_simp; rfl
                            simp only [List.set_cons_succ, List.set_cons_zero, Nat.reduceAdd]
                            apply RegT.T_pure rfl rfl rfl
                            · intro W hR; clear hR; go_simp; rfl
                            simp only [List.set_cons_succ, List.set_cons_zero, Nat.reduceAdd]
                            apply RegT.T_pure rfl rfl rfl
                            · intro W hR; have hc := Y2.out W hR; clear hR; go_simp; rfl
                            simp only [List.set_cons_succ, List.set_cons_zero, Nat.reduceAdd]
                            apply RegT.T_pure (v := .bool false) rfl rfl rfl
                            · intro W hR; clear hR; go_simp
                            simp only [List.set_cons_succ, List.set_cons_zero, Nat.reduceAdd]
                            refine RegT.T_end rfl (fun W5 hR hf => ?_)
                            have HB5 := Lib.hid (HBq.out.trans (((Below.refl _ _).drew.trans hR).mono HBq.out.size))
                            clear hR hf Y1 Y2 HQ
                            go_wp2
                            go_roundw
                            case rel => exact ⟨q + 1, by omega, by go_num, Hst, HB5⟩
                            case measure => simp [intOf]; omega
                          · rfl
                          · kernel_rfl
                        · have Hno := Lib.hid (show ¬ x = y from fun e => he (by subst e; rfl))
                          have hdd : ((x.gone[q] : Int) != (y.gone[q] : Int)) = true := by simp; omega
                          clear he hc1 hc2
                          generalize x.gone[q] = ex at *
                          generalize y.gone[q] = ey at *
                          have Y1 := Lib.hid y1
                          have Y2 := Lib.hid y2
                          clear y1 y2
                          go_wp2
                          apply RegT.wp_region_T rfl 115 11 rfl (by kernel_rfl) RegT.Grow RegT.Grow.refl RegT.Grow.trans
                          · apply RegT.T_pure rfl rfl rfl
                            · intro W hR; clear hR; go_simp; rfl
                            simp only [List.set_cons_succ, List.set_cons_zero, Nat.reduceAdd]
                            apply RegT.T_pure rfl rfl rfl
                            · intro W hR; have hc := (HQ.out W hR).1; clear hR; go_simp; rfl
                            simp only [List.set_cons_succ, List.set_cons_zero, Nat.reduceAdd]
                            apply RegT.T_pure rfl rfl rfl
                            · intro W hR; clear hR; go_simp; rfl
                            simp only [List.set_cons_succ, List.set_cons_zero, Nat.reduceAdd]
                            apply RegT.T_pure rfl rfl rfl
                            · intro W hR; clear hR; go_simp; rfl
                            simp only [List.set_cons_succ, List.set_cons_zero, Nat.reduceAdd]
                            apply RegT.T_pure rfl rfl rfl
                            · intro W hR; have hc := Y1.out W hR; clear hR; go_simp; rfl
                            simp only [List.set_cons_succ, List.set_cons_zero, Nat.reduceAdd]
                            apply RegT.T_pure rfl rfl rfl
                            · intro W hR; clear hR; go_simp; rfl
                            simp only [List.set_cons_succ, List.set_cons_zero, Nat.reduceAdd]
                            apply RegT.T_pure rfl rfl rfl
                            · intro W hR; have hc := (HQ.out W hR).2; clear hR; go_simp; rfl
                            simp only [List.set_cons_succ, List.set_cons_zero, Nat.reduceAdd]
                            apply RegT.T_pure rfl rfl rfl
                            · intro W hR; clear hR; go_simp; rfl
                            simp only [List.set_cons_succ, List.set_cons_zero, Nat.reduceAdd]
                            apply RegT.T_pure rfl rfl rfl
                            · intro W hR; clear hR; go_simp; rfl
                            simp only [List.set_cons_succ, List.set_cons_zero, Nat.reduceAdd]
                            apply RegT.T_pure rfl rfl rfl
                            · intro W hR; have hc := Y2.out W hR; clear hR; go_simp; rfl
                            simp only [List.set_cons_succ, List.set_cons_zero, Nat.reduceAdd]
                            apply RegT.T_pure (v := .bool true) rfl rfl rfl
                            · intro W hR; clear hR; go_simp
                            simp only [List.set_cons_succ, List.set_cons_zero, Nat.reduceAdd]
                            refine RegT.T_end rfl (fun W5 hR hf => ?_)
                            have HB5 := Lib.hid (HBq.out.trans (((Below.refl _ _).drew.trans hR).mono HBq.out.size))
                            clear hR hf Y1 Y2 HQ
                            go_wp2
                            go_ret
                            exact ⟨⟨false, rfl, (fun e => by cases e), fun e => absurd e Hno.out⟩, HB0.out.trans (HB5.out.mono HB0.out.size)⟩
                          · rfl
                          · kernel_rfl
                      · have hqe : q = x.gone.length := by omega
                        have E5 := Lib.hid (show x.gone = y.gone from by
                          have h := HT.out
                          rwa [hqe, List.take_of_length_le (Nat.le_refl _), List.take_of_length_le (by have := L5.out; omega)] at h)
                        have c6 := ((HX1.out.keeps HBq.out.block).at 6).trans X6.out
                        clear HT HQ hlt
                        have HBl5 := HBq
                        clear HBq
                        go_wp2
                        go_loopw [7] (fun ix wr => ∃ q : Nat, q ≤ x.accounts.length ∧ ix = .int .i64 (q : Int) ∧ Hid (x.accounts.take q = y.accounts.take q) ∧ Hid (Below W1.heap.size W1 wr)) (fun ix _ => x.accounts.length - (intOf ix).toNat)
                        case atStart => exact ⟨0, Nat.zero_le _, rfl, Lib.hid (by simp), HBl5⟩
                        case round =>
                          obtain ⟨q, hq, rfl, HT, HBq⟩ := hrel
                          have c6 := ((HX1.out.keeps HBq.out.block).at 6).trans X6.out
                          have HQ := Lib.hid (fun (W : World) (hR : RegT.Grow wr.drew W) => (show W.cell? ⟨w.heap.size, 6, none⟩ = some _ ∧ W.cell? ⟨w.heap.size + 1, 6, none⟩ = some _ from ⟨((HX1.out.keeps (HBq.out.trans (((Below.refl _ _).drew.trans hR).mono HBq.out.size)).block).at 6).trans X6.out, ((HX2.out.keeps (HBq.out.trans (((Below.refl _ _).drew.trans hR).mono HBq.out.size)).block).at 6).trans Y6.out⟩))
                          by_cases hlt : q < x.accounts.length
                          · have hlt2 : q < y.accounts.length := by have := L6.out; omega
                            obtain ⟨b1, o1, e1, hc1⟩ := HA1.out.a.at q hlt
                            obtain ⟨b2, o2, e2, hc2⟩ := HA2.out.a.at q hlt2
                            cases e1
                            cases e2
                            have y1 : ∀ W, RegT.Grow wr.drew W → W.cell? ⟨b1, o1 + q, none⟩ = some (.int .u32 (x.accounts[q] : Int)) := fun W hR => ((HBq.out.trans (((Below.refl _ _).drew.trans hR).mono HBq.out.size)).cell (p := ⟨b1, o1 + q, none⟩) (block_lt_of_cell hc1)).trans hc1
                            have y2 : ∀ W, RegT.Grow wr.drew W → W.cell? ⟨b2, o2 + q, none⟩ = some (.int .u32 (y.accounts[q] : Int)) := fun W hR => ((HBq.out.trans (((Below.refl _ _).drew.trans hR).mono HBq.out.size)).cell (p := ⟨b2, o2 + q, none⟩) (block_lt_of_cell hc2)).trans hc2
                            by_cases he : x.accounts[q] = y.accounts[q]
                            · have Hst := Lib.hid (take_eq_step q hlt hlt2 HT.out he)
                              have hdd : ((x.accounts[q] : Int) != (y.accounts[q] : Int)) = false := by simp; omega
                              clear he hc1 hc2
                              generalize x.accounts[q] = ex at *
                              generalize y.accounts[q] = ey at *
                              have Y1 := Lib.hid y1
                              have Y2 := Lib.hid y2
                              clear y1 y2
                              go_wp2
                              apply RegT.wp_region_T rfl 115 11 rfl (by kernel_rfl) RegT.Grow RegT.Grow.refl RegT.Grow.trans
                              · apply RegT.T_pure rfl rfl rfl
                                · intro W hR; clear hR; go_simp; rfl
                                simp only [List.set_cons_succ, List.set_cons_zero, Nat.reduceAdd]
                                apply RegT.T_pure rfl rfl rfl
                                · intro W hR; have hc := (HQ.out W hR).1; clear hR; go_simp; rfl
                                simp only [List.set_cons_succ, List.set_cons_zero, Nat.reduceAdd]
                                apply RegT.T_pure rfl rfl rfl
                                · intro W hR; clear hR; go_simp; rfl
                                simp only [List.set_cons_succ, List.set_cons_zero, Nat.reduceAdd]
                                apply RegT.T_pure rfl rfl rfl
                                · intro W hR; clear hR; go_simp; rfl
                                simp only [List.set_cons_succ, List.set_cons_zero, Nat.reduceAdd]
                                apply RegT.T_pure rfl rfl rfl
                                · intro W hR; have hc := Y1.out W hR; clear hR; go_simp; rfl
                                simp only [List.set_cons_succ, List.set_cons_zero, Nat.reduceAdd]
                                apply RegT.T_pure rfl rfl rfl
                                · intro W hR; clear hR; go_simp; rfl
                                simp only [List.set_cons_succ, List.set_cons_zero, Nat.reduceAdd]
                                apply RegT.T_pure rfl rfl rfl
                                · intro W hR; have hc := (HQ.out W hR).2; clear hR; go_simp; rfl
                                simp only [List.set_cons_succ, List.set_cons_zero, Nat.reduceAdd]
                                apply RegT.T_pure rfl rfl rfl
                                · intro W hR; clear hR; go_simp; rfl
                                simp only [List.set_cons_succ, List.set_cons_zero, Nat.reduceAdd]
                                apply RegT.T_pure rfl rfl rfl
                                · intro W hR; clear hR; go_simp; rfl
                                simp only [List.set_cons_succ, List.set_cons_zero, Nat.reduceAdd]
                                apply RegT.T_pure rfl rfl rfl
                                · intro W hR; have hc := Y2.out W hR; clear hR; go_simp; rfl
                                simp only [List.set_cons_succ, List.set_cons_zero, Nat.reduceAdd]
                                apply RegT.T_pure (v := .bool false) rfl rfl rfl
                                · intro W hR; clear hR; go_simp
                                simp only [List.set_cons_succ, List.set_cons_zero, Nat.reduceAdd]
                                refine RegT.T_end rfl (fun W5 hR hf => ?_)
                                have HB5 := Lib.hid (HBq.out.trans (((Below.refl _ _).drew.trans hR).mono HBq.out.size))
                                clear hR hf Y1 Y2 HQ
                                go_wp2
                                go_roundw
                                case rel => exact ⟨q + 1, by omega, by go_num, Hst, HB5⟩
                                case measure => simp [intOf]; omega
                              · rfl
                              · kernel_rfl
                            · have Hno := Lib.hid (show ¬ x = y from fun e => he (by subst e; rfl))
                              have hdd : ((x.accounts[q] : Int) != (y.accounts[q] : Int)) = true := by simp; omega
                              clear he hc1 hc2
                              generalize x.accounts[q] = ex at *
                              generalize y.accounts[q] = ey at *
                              have Y1 := Lib.hid y1
                              have Y2 := Lib.hid y2
                              clear y1 y2
                              go_wp2
                              apply RegT.wp_region_T rfl 115 11 rfl (by kernel_rfl) RegT.Grow RegT.Grow.refl RegT.Grow.trans
                              · apply RegT.T_pure rfl rfl rfl
                                · intro W hR; clear hR; go_simp; rfl
                                simp only [List.set_cons_succ, List.set_cons_zero, Nat.reduceAdd]
                                apply RegT.T_pure rfl rfl rfl
                                · intro W hR; have hc := (HQ.out W hR).1; clear hR; go_simp; rfl
                                simp only [List.set_cons_succ, List.set_cons_zero, Nat.reduceAdd]
                                apply RegT.T_pure rfl rfl rfl
                                · intro W hR; clear hR; go_simp; rfl
                                simp only [List.set_cons_succ, List.set_cons_zero, Nat.reduceAdd]
                                apply RegT.T_pure rfl rfl rfl
                                · intro W hR; clear hR; go_simp; rfl
                                simp only [List.set_cons_succ, List.set_cons_zero, Nat.reduceAdd]
                                apply RegT.T_pure rfl rfl rfl
                                · intro W hR; have hc := Y1.out W hR; clear hR; go_simp; rfl
                                simp only [List.set_cons_succ, List.set_cons_zero, Nat.reduceAdd]
                                apply RegT.T_pure rfl rfl rfl
                                · intro W hR; clear hR; go_simp; rfl
                                simp only [List.set_cons_succ, List.set_cons_zero, Nat.reduceAdd]
                                apply RegT.T_pure rfl rfl rfl
                                · intro W hR; have hc := (HQ.out W hR).2; clear hR; go_simp; rfl
                                simp only [List.set_cons_succ, List.set_cons_zero, Nat.reduceAdd]
                                apply RegT.T_pure rfl rfl rfl
                                · intro W hR; clear hR; go_simp; rfl
                                simp only [List.set_cons_succ, List.set_cons_zero, Nat.reduceAdd]
                                apply RegT.T_pure rfl rfl rfl
                                · intro W hR; clear hR; go_simp; rfl
                                simp only [List.set_cons_succ, List.set_cons_zero, Nat.reduceAdd]
                                apply RegT.T_pure rfl rfl rfl
                                · intro W hR; have hc := Y2.out W hR; clear hR; go_simp; rfl
                                simp only [List.set_cons_succ, List.set_cons_zero, Nat.reduceAdd]
                                apply RegT.T_pure (v := .bool true) rfl rfl rfl
                                · intro W hR; clear hR; go_simp
                                simp only [List.set_cons_succ, List.set_cons_zero, Nat.reduceAdd]
                                refine RegT.T_end rfl (fun W5 hR hf => ?_)
                                have HB5 := Lib.hid (HBq.out.trans (((Below.refl _ _).drew.trans hR).mono HBq.out.size))
                                clear hR hf Y1 Y2 HQ
                                go_wp2
                                go_ret
                                exact ⟨⟨false, rfl, (fun e => by cases e), fun e => absurd e Hno.out⟩, HB0.out.trans (HB5.out.mono HB0.out.size)⟩
                              · rfl
                              · kernel_rfl
                          · have hqe : q = x.accounts.length := by omega
                            have E6 := Lib.hid (show x.accounts = y.accounts from by
                              have h := HT.out
                              rwa [hqe, List.take_of_length_le (Nat.le_refl _), List.take_of_length_le (by have := L6.out; omega)] at h)
                            go_wp2
                            go_ret
                            exact ⟨⟨true, rfl, (fun _ => Hall.out E4.out E5.out E6.out), fun _ => rfl⟩, HB0.out.trans (HBq.out.mono HB0.out.size)⟩
              · skip
                have Hr := Lib.hid (show ¬ x = y from fun e => g6 (by rw [e]))
                have d0 : (x.errno != y.errno) = false := by simp [g0]
                have d1 : ((x.number : Int) != (y.number : Int)) = false := by simp; omega
                have d2 : (x.filled != y.filled) = false := by simp [g2]
                have d3 : (x.left != y.left) = false := by simp [g3]
                have d4 : ((x.trades.length : Int) != (y.trades.length : Int)) = false := by simp; omega
                have d5 : ((x.gone.length : Int) != (y.gone.length : Int)) = false := by simp; omega
                have d6 : ((x.accounts.length : Int) != (y.accounts.length : Int)) = true := by simp; omega
                clear g0 g1 g2 g3 g4 g5 g6
                generalize x.errno = en at *
                generalize x.number = nu at *
                generalize x.filled = fi at *
                generalize x.left = le at *
                generalize y.errno = en2 at *
                generalize y.number = nu2 at *
                generalize y.filled = fi2 at *
                generalize y.left = le2 at *
                go_enter Try.func16, Try.ntmps16
                go_upto_region 1 with fail
                rw [HW1.out]
                go_wp2
                go_ret
                exact ⟨⟨false, rfl, (fun e => by cases e), fun e => absurd e Hr.out⟩, HB0.out.trans (HBs.out.mono HB0.out.size)⟩
            · skip
              have Hr := Lib.hid (show ¬ x = y from fun e => g5 (by rw [e]))
              have d0 : (x.errno != y.errno) = false := by simp [g0]
              have d1 : ((x.number : Int) != (y.number : Int)) = false := by simp; omega
              have d2 : (x.filled != y.filled) = false := by simp [g2]
              have d3 : (x.left != y.left) = false := by simp [g3]
              have d4 : ((x.trades.length : Int) != (y.trades.length : Int)) = false := by simp; omega
              have d5 : ((x.gone.length : Int) != (y.gone.length : Int)) = true := by simp; omega
              clear g0 g1 g2 g3 g4 g5
              generalize x.errno = en at *
              generalize x.number = nu at *
              generalize x.filled = fi at *
              generalize x.left = le at *
              generalize y.errno = en2 at *
              generalize y.number = nu2 at *
              generalize y.filled = fi2 at *
              generalize y.left = le2 at *
              go_enter Try.func16, Try.ntmps16
              go_upto_region 1 with fail
              rw [HW1.out]
              go_wp2
              go_ret
              exact ⟨⟨false, rfl, (fun e => by cases e), fun e => absurd e Hr.out⟩, HB0.out.trans (HBs.out.mono HB0.out.size)⟩
          · skip
            have Hr := Lib.hid (show ¬ x = y from fun e => g4 (by rw [e]))
            have d0 : (x.errno != y.errno) = false := by simp [g0]
            have d1 : ((x.number : Int) != (y.number : Int)) = false := by simp; omega
            have d2 : (x.filled != y.filled) = false := by simp [g2]
            have d3 : (x.left != y.left) = false := by simp [g3]
            have d4 : ((x.trades.length : Int) != (y.trades.length : Int)) = true := by simp; omega
            clear g0 g1 g2 g3 g4
            generalize x.errno = en at *
            generalize x.number = nu at *
            generalize x.filled = fi at *
            generalize x.left = le at *
            generalize y.errno = en2 at *
            generalize y.number = nu2 at *
            generalize y.filled = fi2 at *
            generalize y.left = le2 at *
            go_enter Try.func16, Try.ntmps16
            go_upto_region 1 with fail
            rw [HW1.out]
            go_wp2
            go_ret
            exact ⟨⟨false, rfl, (fun e => by cases e), fun e => absurd e Hr.out⟩, HB0.out.trans (HBs.out.mono HB0.out.size)⟩
        · skip
          have Hr := Lib.hid (show ¬ x = y from fun e => g3 (by rw [e]))
          have d0 : (x.errno != y.errno) = false := by simp [g0]
          have d1 : ((x.number : Int) != (y.number : Int)) = false := by simp; omega
          have d2 : (x.filled != y.filled) = false := by simp [g2]
          have d3 : (x.left != y.left) = true := by simp [g3]
          clear g0 g1 g2 g3
          generalize x.errno = en at *
          generalize x.number = nu at *
          generalize x.filled = fi at *
          generalize x.left = le at *
          generalize y.errno = en2 at *
          generalize y.number = nu2 at *
          generalize y.filled = fi2 at *
          generalize y.left = le2 at *
          go_enter Try.func16, Try.ntmps16
          go_upto_region 1 with fail
          rw [HW1.out]
          go_wp2
          go_ret
          exact ⟨⟨false, rfl, (fun e => by cases e), fun e => absurd e Hr.out⟩, HB0.out.trans (HBs.out.mono HB0.out.size)⟩
      · skip
        have Hr := Lib.hid (show ¬ x = y from fun e => g2 (by rw [e]))
        have d0 : (x.errno != y.errno) = false := by simp [g0]
        have d1 : ((x.number : Int) != (y.number : Int)) = false := by simp; omega
        have d2 : (x.filled != y.filled) = true := by simp [g2]
        clear g0 g1 g2
        generalize x.errno = en at *
        generalize x.number = nu at *
        generalize x.filled = fi at *
        generalize x.left = le at *
        generalize y.errno = en2 at *
        generalize y.number = nu2 at *
        generalize y.filled = fi2 at *
        generalize y.left = le2 at *
        go_enter Try.func16, Try.ntmps16
        go_upto_region 1 with fail
        rw [HW1.out]
        go_wp2
        go_ret
        exact ⟨⟨false, rfl, (fun e => by cases e), fun e => absurd e Hr.out⟩, HB0.out.trans (HBs.out.mono HB0.out.size)⟩
    · skip
      have Hr := Lib.hid (show ¬ x = y from fun e => g1 (by rw [e]))
      have d0 : (x.errno != y.errno) = false := by simp [g0]
      have d1 : ((x.number : Int) != (y.number : Int)) = true := by simp; omega
      clear g0 g1
      generalize x.errno = en at *
      generalize x.number = nu at *
      generalize x.filled = fi at *
      generalize x.left = le at *
      generalize y.errno = en2 at *
      generalize y.number = nu2 at *
      generalize y.filled = fi2 at *
      generalize y.left = le2 at *
      go_enter Try.func16, Try.ntmps16
      go_upto_region 1 with fail
      rw [HW1.out]
      go_wp2
      go_ret
      exact ⟨⟨false, rfl, (fun e => by cases e), fun e => absurd e Hr.out⟩, HB0.out.trans (HBs.out.mono HB0.out.size)⟩
  · skip
    have Hr := Lib.hid (show ¬ x = y from fun e => g0 (by rw [e]))
    have d0 : (x.errno != y.errno) = true := by simp [g0]
    clear g0
    generalize x.errno = en at *
    generalize x.number = nu at *
    generalize x.filled = fi at *
    generalize x.left = le at *
    generalize y.errno = en2 at *
    generalize y.number = nu2 at *
    generalize y.filled = fi2 at *
    generalize y.left = le2 at *
    go_enter Try.func16, Try.ntmps16
    go_upto_region 1 with fail
    rw [HW1.out]
    go_wp2
    go_ret
    exact ⟨⟨false, rfl, (fun e => by cases e), fun e => absurd e Hr.out⟩, HB0.out.trans (HBs.out.mono HB0.out.size)⟩
end Go.Proofs.Ytoflehlkacofjaa
