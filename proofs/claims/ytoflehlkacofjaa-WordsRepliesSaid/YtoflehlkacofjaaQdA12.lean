/- Two replies alike; which are looked at; what is known. -/
import Derived.Test.YtoflehlkacofjaaQdA11
namespace Go.Proofs.Ytoflehlkacofjaa
open Go.ChangeShapes Go.WideShapes Go.ChangeAt Go.RowKit
set_option linter.unusedVariables false
theorem two_at (w : World) (A B : Array Value) : RrAt ((w.alloc (.cells A 36)).alloc (.cells B 36)) w.heap.size A ∧ RrAt ((w.alloc (.cells A 36)).alloc (.cells B 36)) (w.heap.size + 1) B ∧ Below w.heap.size w ((w.alloc (.cells A 36)).alloc (.cells B 36)) := by
  refine ⟨(RrAt.new w A).keeps ((Keeps.refl _).alloc _), ?_, ((Below.refl w.heap.size w).alloc (Nat.le_refl _) _).alloc (by simp) _⟩
  have h := RrAt.new (w.alloc (.cells A 36)) B
  rwa [heap_alloc_size] at h
theorem Rp.ext_iff' {x y : Rp} : x = y ↔ x.errno = y.errno ∧ x.number = y.number ∧ x.filled = y.filled ∧ x.left = y.left ∧ x.trades = y.trades ∧ x.gone = y.gone ∧ x.accounts = y.accounts := by
  obtain ⟨a, b, c, d, e, f, g⟩ := x
  obtain ⟨a', b', c', d', e', f', g'⟩ := y
  simp
theorem fixed37 {v1 v2 : Value} {xs ys : List Tr} {W : World} (r : Bool) (hr : (r = true ↔ xs = ys)) (h : Calls Try.prog 37 #[v1, v2] W fun e w' => (∃ r, e = .returned (.bool r) ∧ (r = true ↔ xs = ys)) ∧ Below W.heap.size W w') : Calls Try.prog 37 #[v1, v2] W fun e w' => e = .returned (.bool r) ∧ Below W.heap.size W w' :=
  h.mono fun e w' ⟨⟨r', he, hr'⟩, hB⟩ => ⟨by
    have : r' = r := by
      cases r <;> cases r' <;> simp_all
    rw [he, this], hB⟩
set_option maxRecDepth 100000 in
set_option maxHeartbeats 6400000 in
theorem same12_w (x y : Rp) (tv gv av tv2 gv2 av2 : Value) (w : World) (h1 : RpA w tv gv av x) (h2 : RpA w tv2 gv2 av2 y) :
    Calls Try.prog 12 #[.agg (rpc x tv gv av), .agg (rpc y tv2 gv2 av2)] w fun e w' => (∃ r, e = .returned (.bool r) ∧ (r = true ↔ x = y)) ∧ Below w.heap.size w w' := by
  obtain ⟨W1, hW1⟩ : ∃ W1, (w.alloc (.cells (rpc x tv gv av) 36)).alloc (.cells (rpc y tv2 gv2 av2) 36) = W1 := ⟨_, rfl⟩
  have hat := two_at w (rpc x tv gv av) (rpc y tv2 gv2 av2)
  rw [hW1] at hat
  obtain ⟨hx1, hx2, hb0⟩ := hat
  have HX1 := Lib.hid hx1
  have HX2 := Lib.hid hx2
  have HB0 := Lib.hid hb0
  have HBs := Lib.hid (Below.refl W1.heap.size W1)
  have HA1 := Lib.hid (h1.keeps (show Keeps w W1 from hb0.block))
  have HA2 := Lib.hid (h2.keeps (show Keeps w W1 from hb0.block))
  have HW1 := Lib.hid hW1
  have X0 := Lib.hid (show (rpc x tv gv av)[0]? = some (.int .i64 x.errno) from rfl)
  have Y0 := Lib.hid (show (rpc y tv2 gv2 av2)[0]? = some (.int .i64 y.errno) from rfl)
  have X1 := Lib.hid (show (rpc x tv gv av)[1]? = some (.int .u64 (x.number : Int)) from rfl)
  have Y1 := Lib.hid (show (rpc y tv2 gv2 av2)[1]? = some (.int .u64 (y.number : Int)) from rfl)
  have X2 := Lib.hid (show (rpc x tv gv av)[2]? = some (.int .i64 x.filled) from rfl)
  have Y2 := Lib.hid (show (rpc y tv2 gv2 av2)[2]? = some (.int .i64 y.filled) from rfl)
  have X3 := Lib.hid (show (rpc x tv gv av)[3]? = some (.int .i64 x.left) from rfl)
  have Y3 := Lib.hid (show (rpc y tv2 gv2 av2)[3]? = some (.int .i64 y.left) from rfl)
  have X4 := Lib.hid (show (rpc x tv gv av)[4]? = some (tv) from rfl)
  have Y4 := Lib.hid (show (rpc y tv2 gv2 av2)[4]? = some (tv2) from rfl)
  have X5 := Lib.hid (show (rpc x tv gv av)[5]? = some (gv) from rfl)
  have Y5 := Lib.hid (show (rpc y tv2 gv2 av2)[5]? = some (gv2) from rfl)
  have X6 := Lib.hid (show (rpc x tv gv av)[6]? = some (av) from rfl)
  have Y6 := Lib.hid (show (rpc y tv2 gv2 av2)[6]? = some (av2) from rfl)
  obtain ⟨⟨pt, ct, rfl⟩, ⟨pg, cg, rfl⟩, ⟨pa, ca, rfl⟩⟩ := h1.forms
  obtain ⟨⟨pt2, ct2, rfl⟩, ⟨pg2, cg2, rfl⟩, ⟨pa2, ca2, rfl⟩⟩ := h2.forms
  clear h1 h2 hx1 hx2 hb0 hW1
  generalize rpc x _ _ _ = cx at *
  generalize rpc y _ _ _ = cy at *
  have c0 := (HX1.out.at 0).trans X0.out
  have k0 := (HX2.out.at 0).trans Y0.out
  have c1 := (HX1.out.at 1).trans X1.out
  have k1 := (HX2.out.at 1).trans Y1.out
  have c2 := (HX1.out.at 2).trans X2.out
  have k2 := (HX2.out.at 2).trans Y2.out
  have c3 := (HX1.out.at 3).trans X3.out
  have k3 := (HX2.out.at 3).trans Y3.out
  have c4 := (HX1.out.at 4).trans X4.out
  have k4 := (HX2.out.at 4).trans Y4.out
  have c5 := (HX1.out.at 5).trans X5.out
  have k5 := (HX2.out.at 5).trans Y5.out
  have c6 := (HX1.out.at 6).trans X6.out
  have k6 := (HX2.out.at 6).trans Y6.out
  by_cases g0 : x.errno = y.errno
  · skip
    by_cases g1 : x.number = y.number
    · skip
      by_cases g2 : x.filled = y.filled
      · skip
        by_cases g3 : x.left = y.left
        · skip
          by_cases g4 : x.trades = y.trades
          · skip
            by_cases g5 : x.gone = y.gone
            · skip
              by_cases g6 : x.accounts = y.accounts
              · skip
                have Hr := Lib.hid (show x = y from Rp.ext_iff'.2 ⟨g0, g1, g2, g3, g4, g5, g6⟩)
                have d0 : (x.errno == y.errno) = true := by simp [g0]
                have d1 : ((x.number : Int) == (y.number : Int)) = true := by simp; omega
                have d2 : (x.filled == y.filled) = true := by simp [g2]
                have d3 : (x.left == y.left) = true := by simp [g3]
                have H4 := Lib.hid (fun W (hk : Keeps W1 W) => fixed37 true ⟨fun _ => g4, fun _ => rfl⟩ (equal37_w _ _ x.trades y.trades W (HA1.out.keeps hk).t (HA2.out.keeps hk).t (Nat.le_trans HA1.out.ok.lt (by decide)) (Nat.le_trans HA2.out.ok.lt (by decide))))
                have H5 := Lib.hid (fun W (hk : Keeps W1 W) => (show Calls Try.prog 38 #[_, _] W fun e w' => e = .returned (.bool true) ∧ Below W.heap.size W w' from by have h := equal38_w _ _ x.gone y.gone W (HA1.out.keeps hk).g (HA2.out.keeps hk).g (Nat.le_trans HA1.out.ok.lg (by decide)) (Nat.le_trans HA2.out.ok.lg (by decide)); rw [decide_eq_true g5] at h; exact h))
                have H6 := Lib.hid (fun W (hk : Keeps W1 W) => (show Calls Try.prog 39 #[_, _] W fun e w' => e = .returned (.bool true) ∧ Below W.heap.size W w' from by have h := equal39_w _ _ x.accounts y.accounts W (HA1.out.keeps hk).a (HA2.out.keeps hk).a (Nat.le_trans HA1.out.ok.la (by decide)) (Nat.le_trans HA2.out.ok.la (by decide)); rw [decide_eq_true g6] at h; exact h))
                clear g0 g1 g2 g3 g4 g5 g6
                generalize x.errno = en at *
                generalize x.number = nu at *
                generalize x.filled = fi at *
                generalize x.left = le at *
                generalize y.errno = en2 at *
                generalize y.number = nu2 at *
                generalize y.filled = fi2 at *
                generalize y.left = le2 at *
                go_enter Try.func12, Try.ntmps12
                go_upto_region 1 with fail
                rw [HW1.out]
                go_wp2_with (first
                  | (go_at_call 37; (with_reducible refine (H4.out _ (Keeps.refl _)).mono ?_); rintro e w4 ⟨rfl, hB⟩; have HB4 := Lib.hid (HBs.out.trans (hB.mono HBs.out.size)); have z5_4 := (HX1.out.keeps HB4.out.block).at 5 |>.trans X5.out; have q5_4 := (HX2.out.keeps HB4.out.block).at 5 |>.trans Y5.out; have z6_4 := (HX1.out.keeps HB4.out.block).at 6 |>.trans X6.out; have q6_4 := (HX2.out.keeps HB4.out.block).at 6 |>.trans Y6.out; clear hB)
                  | (go_at_call 38; (with_reducible refine (H5.out _ (Below.keeps HB4.out)).mono ?_); rintro e w5 ⟨rfl, hB⟩; have HB5 := Lib.hid (HB4.out.trans (hB.mono HB4.out.size)); have z6_5 := (HX1.out.keeps HB5.out.block).at 6 |>.trans X6.out; have q6_5 := (HX2.out.keeps HB5.out.block).at 6 |>.trans Y6.out; clear hB)
                  | (go_at_call 39; (with_reducible refine (H6.out _ (Below.keeps HB5.out)).mono ?_); rintro e w6 ⟨rfl, hB⟩; have HB6 := Lib.hid (HB5.out.trans (hB.mono HB5.out.size)); clear hB))
                go_ret
                exact ⟨⟨true, rfl, (fun _ => Hr.out), fun _ => rfl⟩, HB0.out.trans (HB6.out.mono HB0.out.size)⟩
              · skip
                have Hr := Lib.hid (show ¬ x = y from fun e => g6 (by rw [e]))
                have d0 : (x.errno == y.errno) = true := by simp [g0]
                have d1 : ((x.number : Int) == (y.number : Int)) = true := by simp; omega
                have d2 : (x.filled == y.filled) = true := by simp [g2]
                have d3 : (x.left == y.left) = true := by simp [g3]
                have H4 := Lib.hid (fun W (hk : Keeps W1 W) => fixed37 true ⟨fun _ => g4, fun _ => rfl⟩ (equal37_w _ _ x.trades y.trades W (HA1.out.keeps hk).t (HA2.out.keeps hk).t (Nat.le_trans HA1.out.ok.lt (by decide)) (Nat.le_trans HA2.out.ok.lt (by decide))))
                have H5 := Lib.hid (fun W (hk : Keeps W1 W) => (show Calls Try.prog 38 #[_, _] W fun e w' => e = .returned (.bool true) ∧ Below W.heap.size W w' from by have h := equal38_w _ _ x.gone y.gone W (HA1.out.keeps hk).g (HA2.out.keeps hk).g (Nat.le_trans HA1.out.ok.lg (by decide)) (Nat.le_trans HA2.out.ok.lg (by decide)); rw [decide_eq_true g5] at h; exact h))
                have H6 := Lib.hid (fun W (hk : Keeps W1 W) => (show Calls Try.prog 39 #[_, _] W fun e w' => e = .returned (.bool false) ∧ Below W.heap.size W w' from by have h := equal39_w _ _ x.accounts y.accounts W (HA1.out.keeps hk).a (HA2.out.keeps hk).a (Nat.le_trans HA1.out.ok.la (by decide)) (Nat.le_trans HA2.out.ok.la (by decide)); rw [decide_eq_false g6] at h; exact h))
                clear g0 g1 g2 g3 g4 g5 g6
                generalize x.errno = en at *
                generalize x.number = nu at *
                generalize x.filled = fi at *
                generalize x.left = le at *
                generalize y.errno = en2 at *
                generalize y.number = nu2 at *
                generalize y.filled = fi2 at *
                generalize y.left = le2 at *
                go_enter Try.func12, Try.ntmps12
                go_upto_region 1 with fail
                rw [HW1.out]
                go_wp2_with (first
                  | (go_at_call 37; (with_reducible refine (H4.out _ (Keeps.refl _)).mono ?_); rintro e w4 ⟨rfl, hB⟩; have HB4 := Lib.hid (HBs.out.trans (hB.mono HBs.out.size)); have z5_4 := (HX1.out.keeps HB4.out.block).at 5 |>.trans X5.out; have q5_4 := (HX2.out.keeps HB4.out.block).at 5 |>.trans Y5.out; have z6_4 := (HX1.out.keeps HB4.out.block).at 6 |>.trans X6.out; have q6_4 := (HX2.out.keeps HB4.out.block).at 6 |>.trans Y6.out; clear hB)
                  | (go_at_call 38; (with_reducible refine (H5.out _ (Below.keeps HB4.out)).mono ?_); rintro e w5 ⟨rfl, hB⟩; have HB5 := Lib.hid (HB4.out.trans (hB.mono HB4.out.size)); have z6_5 := (HX1.out.keeps HB5.out.block).at 6 |>.trans X6.out; have q6_5 := (HX2.out.keeps HB5.out.block).at 6 |>.trans Y6.out; clear hB)
                  | (go_at_call 39; (with_reducible refine (H6.out _ (Below.keeps HB5.out)).mono ?_); rintro e w6 ⟨rfl, hB⟩; have HB6 := Lib.hid (HB5.out.trans (hB.mono HB5.out.size)); clear hB))
                go_ret
                exact ⟨⟨false, rfl, (fun e => by cases e), fun e => absurd e Hr.out⟩, HB0.out.trans (HB6.out.mono HB0.out.size)⟩
            · skip
              have Hr := Lib.hid (show ¬ x = y from fun e => g5 (by rw [e]))
              have d0 : (x.errno == y.errno) = true := by simp [g0]
              have d1 : ((x.number : Int) == (y.number : Int)) = true := by simp; omega
              have d2 : (x.filled == y.filled) = true := by simp [g2]
              have d3 : (x.left == y.left) = true := by simp [g3]
              have H4 := Lib.hid (fun W (hk : Keeps W1 W) => fixed37 true ⟨fun _ => g4, fun _ => rfl⟩ (equal37_w _ _ x.trades y.trades W (HA1.out.keeps hk).t (HA2.out.keeps hk).t (Nat.le_trans HA1.out.ok.lt (by decide)) (Nat.le_trans HA2.out.ok.lt (by decide))))
              have H5 := Lib.hid (fun W (hk : Keeps W1 W) => (show Calls Try.prog 38 #[_, _] W fun e w' => e = .returned (.bool false) ∧ Below W.heap.size W w' from by have h := equal38_w _ _ x.gone y.gone W (HA1.out.keeps hk).g (HA2.out.keeps hk).g (Nat.le_trans HA1.out.ok.lg (by decide)) (Nat.le_trans HA2.out.ok.lg (by decide)); rw [decide_eq_false g5] at h; exact h))
              clear g0 g1 g2 g3 g4 g5
              generalize x.errno = en at *
              generalize x.number = nu at *
              generalize x.filled = fi at *
              generalize x.left = le at *
              generalize y.errno = en2 at *
              generalize y.number = nu2 at *
              generalize y.filled = fi2 at *
              generalize y.left = le2 at *
              go_enter Try.func12, Try.ntmps12
              go_upto_region 1 with fail
              rw [HW1.out]
              go_wp2_with (first
                | (go_at_call 37; (with_reducible refine (H4.out _ (Keeps.refl _)).mono ?_); rintro e w4 ⟨rfl, hB⟩; have HB4 := Lib.hid (HBs.out.trans (hB.mono HBs.out.size)); have z5_4 := (HX1.out.keeps HB4.out.block).at 5 |>.trans X5.out; have q5_4 := (HX2.out.keeps HB4.out.block).at 5 |>.trans Y5.out; have z6_4 := (HX1.out.keeps HB4.out.block).at 6 |>.trans X6.out; have q6_4 := (HX2.out.keeps HB4.out.block).at 6 |>.trans Y6.out; clear hB)
                | (go_at_call 38; (with_reducible refine (H5.out _ (Below.keeps HB4.out)).mono ?_); rintro e w5 ⟨rfl, hB⟩; have HB5 := Lib.hid (HB4.out.trans (hB.mono HB4.out.size)); have z6_5 := (HX1.out.keeps HB5.out.block).at 6 |>.trans X6.out; have q6_5 := (HX2.out.keeps HB5.out.block).at 6 |>.trans Y6.out; clear hB))
              go_ret
              exact ⟨⟨false, rfl, (fun e => by cases e), fun e => absurd e Hr.out⟩, HB0.out.trans (HB5.out.mono HB0.out.size)⟩
          · skip
            have Hr := Lib.hid (show ¬ x = y from fun e => g4 (by rw [e]))
            have d0 : (x.errno == y.errno) = true := by simp [g0]
            have d1 : ((x.number : Int) == (y.number : Int)) = true := by simp; omega
            have d2 : (x.filled == y.filled) = true := by simp [g2]
            have d3 : (x.left == y.left) = true := by simp [g3]
            have H4 := Lib.hid (fun W (hk : Keeps W1 W) => fixed37 false ⟨fun e => (by cases e), fun e => absurd e g4⟩ (equal37_w _ _ x.trades y.trades W (HA1.out.keeps hk).t (HA2.out.keeps hk).t (Nat.le_trans HA1.out.ok.lt (by decide)) (Nat.le_trans HA2.out.ok.lt (by decide))))
            clear g0 g1 g2 g3 g4
            generalize x.errno = en at *
            generalize x.number = nu at *
            generalize x.filled = fi at *
            generalize x.left = le at *
            generalize y.errno = en2 at *
            generalize y.number = nu2 at *
            generalize y.filled = fi2 at *
            generalize y.left = le2 at *
            go_enter Try.func12, Try.ntmps12
            go_upto_region 1 with fail
            rw [HW1.out]
            go_wp2_with (first
              | (go_at_call 37; (with_reducible refine (H4.out _ (Keeps.refl _)).mono ?_); rintro e w4 ⟨rfl, hB⟩; have HB4 := Lib.hid (HBs.out.trans (hB.mono HBs.out.size)); have z5_4 := (HX1.out.keeps HB4.out.block).at 5 |>.trans X5.out; have q5_4 := (HX2.out.keeps HB4.out.block).at 5 |>.trans Y5.out; have z6_4 := (HX1.out.keeps HB4.out.block).at 6 |>.trans X6.out; have q6_4 := (HX2.out.keeps HB4.out.block).at 6 |>.trans Y6.out; clear hB))
            go_ret
            exact ⟨⟨false, rfl, (fun e => by cases e), fun e => absurd e Hr.out⟩, HB0.out.trans (HB4.out.mono HB0.out.size)⟩
        · skip
          have Hr := Lib.hid (show ¬ x = y from fun e => g3 (by rw [e]))
          have d0 : (x.errno == y.errno) = true := by simp [g0]
          have d1 : ((x.number : Int) == (y.number : Int)) = true := by simp; omega
          have d2 : (x.filled == y.filled) = true := by simp [g2]
          have d3 : (x.left == y.left) = false := by simp [g3]
          clear g0 g1 g2 g3
          generalize x.errno = en at *
          generalize x.number = nu at *
          generalize x.filled = fi at *
          generalize x.left = le at *
          generalize y.errno = en2 at *
          generalize y.number = nu2 at *
          generalize y.filled = fi2 at *
          generalize y.left = le2 at *
          go_enter Try.func12, Try.ntmps12
          go_upto_region 1 with fail
          rw [HW1.out]
          go_wp2
          go_ret
          exact ⟨⟨false, rfl, (fun e => by cases e), fun e => absurd e Hr.out⟩, HB0.out.trans (HBs.out.mono HB0.out.size)⟩
      · skip
        have Hr := Lib.hid (show ¬ x = y from fun e => g2 (by rw [e]))
        have d0 : (x.errno == y.errno) = true := by simp [g0]
        have d1 : ((x.number : Int) == (y.number : Int)) = true := by simp; omega
        have d2 : (x.filled == y.filled) = false := by simp [g2]
        clear g0 g1 g2
        generalize x.errno = en at *
        generalize x.number = nu at *
        generalize x.filled = fi at *
        generalize x.left = le at *
        generalize y.errno = en2 at *
        generalize y.number = nu2 at *
        generalize y.filled = fi2 at *
        generalize y.left = le2 at *
        go_enter Try.func12, Try.ntmps12
        go_upto_region 1 with fail
        rw [HW1.out]
        go_wp2
        go_ret
        exact ⟨⟨false, rfl, (fun e => by cases e), fun e => absurd e Hr.out⟩, HB0.out.trans (HBs.out.mono HB0.out.size)⟩
    · skip
      have Hr := Lib.hid (show ¬ x = y from fun e => g1 (by rw [e]))
      have d0 : (x.errno == y.errno) = true := by simp [g0]
      have d1 : ((x.number : Int) == (y.number : Int)) = false := by simp; omega
      clear g0 g1
      generalize x.errno = en at *
      generalize x.number = nu at *
      generalize x.filled = fi at *
      generalize x.left = le at *
      generalize y.errno = en2 at *
      generalize y.number = nu2 at *
      generalize y.filled = fi2 at *
      generalize y.left = le2 at *
      go_enter Try.func12, Try.ntmps12
      go_upto_region 1 with fail
      rw [HW1.out]
      go_wp2
      go_ret
      exact ⟨⟨false, rfl, (fun e => by cases e), fun e => absurd e Hr.out⟩, HB0.out.trans (HBs.out.mono HB0.out.size)⟩
  · skip
    have Hr := Lib.hid (show ¬ x = y from fun e => g0 (by rw [e]))
    have d0 : (x.errno == y.errno) = false := by simp [g0]
    clear g0
    generalize x.errno = en at *
    generalize x.number = nu at *
    generalize x.filled = fi at *
    generalize x.left = le at *
    generalize y.errno = en2 at *
    generalize y.number = nu2 at *
    generalize y.filled = fi2 at *
    generalize y.left = le2 at *
    go_enter Try.func12, Try.ntmps12
    go_upto_region 1 with fail
    rw [HW1.out]
    go_wp2
    go_ret
    exact ⟨⟨false, rfl, (fun e => by cases e), fun e => absurd e Hr.out⟩, HB0.out.trans (HBs.out.mono HB0.out.size)⟩
end Go.Proofs.Ytoflehlkacofjaa
