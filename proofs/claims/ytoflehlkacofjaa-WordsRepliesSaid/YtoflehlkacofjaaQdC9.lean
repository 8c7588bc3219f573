/- Whether a reply may be, by the document. -/
import Derived.Test.YtoflehlkacofjaaQdC8
namespace Go.Proofs.Ytoflehlkacofjaa
open Go.ChangeShapes Go.WideShapes Go.ChangeAt Go.RowKit
set_option linter.unusedVariables false
theorem mayB_of {x : Rp} (h0 : 0 ≤ x.errno) (h9 : x.errno ≤ 999) (l1 : x.trades.length ≤ 4000) (l2 : x.gone.length ≤ 4000) (l3 : x.accounts.length ≤ 4000) (k : Nat) (hk : x.errno = (k : Int)) (r : Bool) (hr : r = true ↔ x = ⟨(k : Int), 0, 0, 0, [], [], []⟩) (hk0 : k ≠ 0) : x.mayB = r := by
  have he : x.mayB = true ↔ r = true := by
    rw [hr]
    constructor
    · intro h
      have := Rp.may_err h (by omega)
      rw [this, hk]
    · intro h
      rw [h]
      unfold Rp.mayB mayRB emptyB
      simp; omega
  cases r <;> cases hm : x.mayB <;> simp_all
theorem mayB_zero {x : Rp} (l1 : x.trades.length ≤ 4000) (l2 : x.gone.length ≤ 4000) (l3 : x.accounts.length ≤ 4000) (h : x.errno = 0) : x.mayB = true := by
  unfold Rp.mayB mayRB
  simp [h, l1, l2, l3]
theorem mayB_not {x : Rp} (h : ¬ (0 ≤ x.errno ∧ x.errno ≤ 999 ∧ x.trades.length ≤ 4000 ∧ x.gone.length ≤ 4000 ∧ x.accounts.length ≤ 4000)) : x.mayB = false := by
  cases hm : x.mayB with
  | false => rfl
  | true => exact absurd (mayR_open hm) h
theorem err_ok {k : Nat} (h : k ≤ 999) : Rp.ok ⟨(k : Int), 0, 0, 0, [], [], []⟩ := by
  have h0 : Sp.i64 0 := by unfold Sp.i64; decide
  exact ⟨nat_small_lt h, by show (0 : Nat) < 2 ^ 64; decide, h0, h0, (fun _ h => by cases h), (fun _ h => by cases h), (fun _ h => by cases h), Nat.zero_le _, Nat.zero_le _, Nat.zero_le _⟩
theorem err_at (w : World) {k : Nat} (h : k ≤ 999) : RpA w (.slice none 0 0) (.slice none 0 0) (.slice none 0 0) ⟨(k : Int), 0, 0, 0, [], [], []⟩ := ⟨rdc_nil _ _, rdc_nil _ _, rdc_nil _ _, err_ok h⟩
set_option maxRecDepth 100000 in
set_option maxHeartbeats 12800000 in
theorem refmay15_w (x : Rp) (tv gv av : Value) (w : World) (h : RpA w tv gv av x) : Calls Try.prog 15 #[.agg (rpc x tv gv av)] w fun e w' => e = .returned (.bool x.mayB) ∧ Below w.heap.size w w' := by
  obtain ⟨W1, hW1⟩ : ∃ W1, w.alloc (.cells (rpc x tv gv av) 36) = W1 := ⟨_, rfl⟩
  have HX := Lib.hid (show RrAt W1 w.heap.size (rpc x tv gv av) from by rw [← hW1]; exact RrAt.new w _)
  have HB0 := Lib.hid (show Below w.heap.size w W1 from by rw [← hW1]; exact (Below.refl w.heap.size w).alloc (Nat.le_refl _) _)
  have HA := Lib.hid (h.keeps (show Keeps w W1 from HB0.out.block))
  have HW1 := Lib.hid hW1
  have hsz : (rpc x tv gv av).size = 7 := rfl
  have X0 := Lib.hid (show (rpc x tv gv av)[0]? = some (.int .i64 x.errno) from rfl)
  have X4 := Lib.hid (show (rpc x tv gv av)[4]? = some tv from rfl)
  have X5 := Lib.hid (show (rpc x tv gv av)[5]? = some gv from rfl)
  have X6 := Lib.hid (show (rpc x tv gv av)[6]? = some av from rfl)
  have HSm := Lib.hid (fun (k : Nat) (hk9 : k ≤ 999) (W : World) (hk : Keeps W1 W) => (show Calls Try.prog 16 #[.agg (rpc x tv gv av), .agg (kR k)] W _ from refsame16_w x ⟨(k : Int), 0, 0, 0, [], [], []⟩ tv gv av (.slice none 0 0) (.slice none 0 0) (.slice none 0 0) W (HA.out.keeps hk) (err_at W hk9)))
  obtain ⟨⟨pt, ct, rfl⟩, ⟨pg, cg, rfl⟩, ⟨pa, ca, rfl⟩⟩ := h.forms
  have c0 := (HX.out.at 0).trans X0.out
  have c4 := (HX.out.at 4).trans X4.out
  have c5 := (HX.out.at 5).trans X5.out
  have c6 := (HX.out.at 6).trans X6.out
  obtain ⟨R, hR⟩ : ∃ R, x.mayB = R := ⟨_, rfl⟩
  have HR := Lib.hid hR
  rw [hR]
  clear h hW1 hR
  generalize rpc x _ _ _ = cx at *
  by_cases g0 : 0 ≤ x.errno
  · skip
    by_cases g1 : x.errno ≤ 999
    · skip
      by_cases g2 : x.trades.length ≤ 4000
      · skip
        by_cases g3 : x.gone.length ≤ 4000
        · skip
          by_cases g4 : x.accounts.length ≤ 4000
          · skip
            have d0 : decide (x.errno < 0) = false := by simp; omega
            have d1 : decide (999 < x.errno) = false := by simp; omega
            have d2 : decide (4000 < (x.trades.length : Int)) = false := by simp; omega
            have d3 : decide (4000 < (x.gone.length : Int)) = false := by simp; omega
            have d4 : decide (4000 < (x.accounts.length : Int)) = false := by simp; omega
            obtain ⟨k, hk⟩ : ∃ k : Nat, x.errno = (k : Int) := ⟨x.errno.toNat, by omega⟩
            have hk9 : k ≤ 999 := by omega
            by_cases g5 : k = 0
            · have hm := Lib.hid (show R = true from HR.out.symm.trans (mayB_zero g2 g3 g4 (by omega)))
              have d5 : ((k : Int) == 0) = true := by simp; omega
              rw [hk] at c0 d0 d1
              clear hk g0 g1 g2 g3 g4 g5
              generalize x.errno = en at *
              generalize x.trades.length = nt at *
              generalize x.gone.length = ng at *
              generalize x.accounts.length = na at *
              go_enter Try.func15, Try.ntmps15
              go_upto_region 1 with fail
              rw [HW1.out]
              go_wp2
              go_ret
              exact ⟨by (rw [hm.out]; rfl), HB0.out⟩
            · have d5 : ((k : Int) == 0) = false := by simp; omega
              have HMy := Lib.hid (fun r hr => HR.out.symm.trans (mayB_of g0 g1 g2 g3 g4 k hk r hr g5))
              have HSk := Lib.hid (HSm.out k hk9 W1 (Keeps.refl _))
              rw [hk] at c0 d0 d1
              clear hk g0 g1 g2 g3 g4 g5 HSm
              obtain ⟨kc, hkc⟩ : ∃ kc, kR k = kc := ⟨_, rfl⟩
              have Hkc := Lib.hid hkc
              rw [hkc] at HSk
              clear hkc
              generalize x.errno = en at *
              generalize x.trades.length = nt at *
              generalize x.gone.length = ng at *
              generalize x.accounts.length = na at *
              go_enter Try.func15, Try.ntmps15
              go_upto_region 1 with fail
              rw [HW1.out]
              go_wp2_with (first
                | (refine wpList_load_rr rfl (.tmp 1) rfl rfl HX.out hsz ?_)
                | (refine wpList_plain_value (v := .agg kc) rfl (by rw [← Hkc.out]; exact exec_build36 k (.tmp 35) rfl rfl) ?_)
                | (go_at_call 16; (with_reducible refine (HSk.out).mono ?_); rintro r w2 ⟨⟨r2, rfl, hr⟩, hB⟩; have HRr := Lib.hid (HMy.out r2 hr); have HB2 := Lib.hid hB; clear hr hB))
              go_ret
              exact ⟨by (rw [HRr.out]; rfl), HB0.out.trans (HB2.out.mono HB0.out.size)⟩
          · have hm := Lib.hid (show R = false from HR.out.symm.trans (mayB_not (by omega)))
            have d0 : decide (x.errno < 0) = false := by simp; omega
            have d1 : decide (999 < x.errno) = false := by simp; omega
            have d2 : decide (4000 < (x.trades.length : Int)) = false := by simp; omega
            have d3 : decide (4000 < (x.gone.length : Int)) = false := by simp; omega
            have d4 : decide (4000 < (x.accounts.length : Int)) = true := by simp; omega
            clear g0 g1 g2 g3 g4 HSm
            generalize x.errno = en at *
            generalize x.trades.length = nt at *
            generalize x.gone.length = ng at *
            generalize x.accounts.length = na at *
            go_enter Try.func15, Try.ntmps15
            go_upto_region 1 with fail
            rw [HW1.out]
            go_wp2
            go_ret
            exact ⟨by (rw [hm.out]; rfl), HB0.out⟩
        · have hm := Lib.hid (show R = false from HR.out.symm.trans (mayB_not (by omega)))
          have d0 : decide (x.errno < 0) = false := by simp; omega
          have d1 : decide (999 < x.errno) = false := by simp; omega
          have d2 : decide (4000 < (x.trades.length : Int)) = false := by simp; omega
          have d3 : decide (4000 < (x.gone.length : Int)) = true := by simp; omega
          clear g0 g1 g2 g3 HSm
          generalize x.errno = en at *
          generalize x.trades.length = nt at *
          generalize x.gone.length = ng at *
          generalize x.accounts.length = na at *
          go_enter Try.func15, Try.ntmps15
          go_upto_region 1 with fail
          rw [HW1.out]
          go_wp2
          go_ret
          exact ⟨by (rw [hm.out]; rfl), HB0.out⟩
      · have hm := Lib.hid (show R = false from HR.out.symm.trans (mayB_not (by omega)))
        have d0 : decide (x.errno < 0) = false := by simp; omega
        have d1 : decide (999 < x.errno) = false := by simp; omega
        have d2 : decide (4000 < (x.trades.length : Int)) = true := by simp; omega
        clear g0 g1 g2 HSm
        generalize x.errno = en at *
        generalize x.trades.length = nt at *
        generalize x.gone.length = ng at *
        generalize x.accounts.length = na at *
        go_enter Try.func15, Try.ntmps15
        go_upto_region 1 with fail
        rw [HW1.out]
        go_wp2
        go_ret
        exact ⟨by (rw [hm.out]; rfl), HB0.out⟩
    · have hm := Lib.hid (show R = false from HR.out.symm.trans (mayB_not (by omega)))
      have d0 : decide (x.errno < 0) = false := by simp; omega
      have d1 : decide (999 < x.errno) = true := by simp; omega
      clear g0 g1 HSm
      generalize x.errno = en at *
      generalize x.trades.length = nt at *
      generalize x.gone.length = ng at *
      generalize x.accounts.length = na at *
      go_enter Try.func15, Try.ntmps15
      go_upto_region 1 with fail
      rw [HW1.out]
      go_wp2
      go_ret
      exact ⟨by (rw [hm.out]; rfl), HB0.out⟩
  · have hm := Lib.hid (show R = false from HR.out.symm.trans (mayB_not (by omega)))
    have d0 : decide (x.errno < 0) = true := by simp; omega
    clear g0 HSm
    generalize x.errno = en at *
    generalize x.trades.length = nt at *
    generalize x.gone.length = ng at *
    generalize x.accounts.length = na at *
    go_enter Try.func15, Try.ntmps15
    go_upto_region 1 with fail
    rw [HW1.out]
    go_wp2
    go_ret
    exact ⟨by (rw [hm.out]; rfl), HB0.out⟩
end Go.Proofs.Ytoflehlkacofjaa
