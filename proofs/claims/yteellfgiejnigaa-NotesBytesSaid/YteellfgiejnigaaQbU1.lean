/- U1: N1, N2, N3, N13, N4, N5. -/
import Derived.Test.YteellfgiejnigaaQbL3
import Derived.Test.YteellfgiejnigaaQbL4
import Derived.Test.YteellfgiejnigaaQbV1
namespace Go.Proofs.Yteellfgiejnigaa
open Go.ChangeShapes Go.WideShapes Go.ChangeAt Go.RowKit
set_option linter.unusedVariables false
set_option maxRecDepth 100000 in
theorem bytesEq_w (va vb : Value) (l m : List UInt8) (w : World) (ha : RdB w va l) (hb : RdB w vb m) :
    Calls Try.prog 74 #[va, vb] w fun r w' => r = .returned (.bool (decide (l = m))) ∧ Below w.heap.size w w' := by
  have hc1 := run_convert_str (P := Try.prog) ha 29 5 9 Try.underlying29 Try.underlying5 Try.underlying9
  have hc2 := run_convert_str (P := Try.prog) hb 29 5 9 Try.underlying29 Try.underlying5 Try.underlying9
  have e := str_beq l m
  obtain ⟨pa, ca, rfl, _⟩ := ha
  obtain ⟨pb, cb, rfl, _⟩ := hb
  generalize decide (l = m) = q at *
  obtain ⟨S, hS⟩ : ∃ S, (⟨l.toArray⟩ : ByteArray) = S := ⟨_, rfl⟩
  obtain ⟨T, hT⟩ : ∃ T, (⟨m.toArray⟩ : ByteArray) = T := ⟨_, rfl⟩
  rw [hS] at hc1 e
  rw [hT] at hc2 e
  clear hS hT
  go_enter Try.func74, Try.ntmps74
  go_wp2
  go_ret
  exact ⟨rfl, Below.refl _ _⟩

set_option maxRecDepth 100000 in
theorem sameEntry_w (s t : Nat) (d e : Value) (l m : List UInt8) (w : World) (ha : RdB w d l) (hb : RdB w e m) :
    Calls Try.prog 73 #[.agg #[.int .u64 (s : Int), d], .agg #[.int .u64 (t : Int), e]] w fun r w' => r = .returned (.bool (decide (s = t ∧ l = m))) ∧ Below w.heap.size w w' := by
  have HB0 := Lib.hid (((Below.refl w.heap.size w).alloc (Nat.le_refl _) (.cells #[.int .u64 (s : Int), d] 53)).alloc (by simp) (.cells #[.int .u64 (t : Int), e] 53))
  by_cases h : s = t
  · subst h
    have HC := Lib.hid (bytesEq_w d e l m _ (ha.keeps HB0.out.block) (hb.keeps HB0.out.block))
    have hq : decide (s = s ∧ l = m) = decide (l = m) := by simp
    rw [hq]
    clear hq
    generalize decide (l = m) = q at *
    obtain ⟨pa, ca, rfl, _⟩ := ha
    obtain ⟨pb, cb, rfl, _⟩ := hb
    go_enter Try.func73, Try.ntmps73
    go_wp2_with (go_at_call 74; refine (HC.out).mono ?_; rintro r w2 ⟨rfl, hB⟩; have HB2 := Lib.hid (HB0.out.trans (hB.mono HB0.out.size)); clear hB HC)
    go_ret
    exact ⟨rfl, HB2.out⟩
  · have e1 : (s == t) = false := by simp; omega
    have e3 : ((s : Int) == (t : Int)) = false := by simp; omega
    have e4 : decide ((s : Int) = (t : Int)) = false := by simp; omega
    have e2 : decide (s = t) = false := by simp; omega
    have hq : decide (s = t ∧ l = m) = false := by simp [h]
    rw [hq]
    obtain ⟨pa, ca, rfl, _⟩ := ha
    obtain ⟨pb, cb, rfl, _⟩ := hb
    clear hq h
    go_enter Try.func73, Try.ntmps73
    go_wp2
    go_ret
    exact ⟨rfl, HB0.out⟩
theorem rangeAt_below {w w' : World} {b o : Nat} {cs : List Value} (h : w.rangeAt b o cs) (hb : b < w.heap.size) (hB : Below w.heap.size w w') : w'.rangeAt b o cs := fun j x hx => (World.cell?_of_block (w := w) (a := ⟨b, o + j, none⟩) (hB.block b hb)).trans (h j x hx)

set_option maxRecDepth 100000 in
set_option maxHeartbeats 3200000 in
theorem equalFunc_w (R1 R2 : Foot) (va vb : Value) (es fs : List Ent) (w : World) (ha : EsR w R1 va es) (hb : EsR w R2 vb fs) (hn : es.length ≤ 1000000) :
    Calls Try.prog 72 #[va, vb, .func (.func 73) #[] #[]] w fun r w' => r = .returned (.bool (decide (es = fs))) ∧ Below w.heap.size w w' := by
  obtain ⟨pa, ca, rfl⟩ := ha.len_form
  obtain ⟨pb, cb, rfl⟩ := hb.len_form
  have Ha := Lib.hid ha
  have Hb := Lib.hid hb
  clear ha hb
  by_cases hl : es.length = fs.length
  · have e0 : ((es.length : Int) != (fs.length : Int)) = false := by simp [hl]
    have e4 : (es.length != fs.length) = false := by simp [hl]
    have Hl := Lib.hid hl
    clear hl
    go_enter Try.func72, Try.ntmps72
    go_wp2
    go_loopw [17] (fun i wr => ∃ k : Nat, k ≤ es.length ∧ i = .int .i64 (k : Int) ∧ Hid (es.take k = fs.take k) ∧ Hid (Below w.heap.size w wr)) (fun i _ => es.length - (intOf i).toNat)
    case atStart => exact ⟨0, Nat.zero_le _, rfl, Lib.hid rfl, Lib.hid (Below.refl _ _)⟩
    case round =>
      obtain ⟨k, hk, rfl, HT, HB⟩ := hrel
      by_cases hlt : k < es.length
      · have hlt2 : k < fs.length := by have := Hl.out; omega
        obtain ⟨b1, o1, c1, d1, hv1, _, hb1, q1, q2, q3, _⟩ := Ha.out.elemF k hlt
        obtain ⟨b2, o2, c2, d2, hv2, _, hb2, r1, r2, r3, _⟩ := Hb.out.elemF k hlt2
        cases hv1
        cases hv2
        have hra1 : w.rangeAt b1 (o1 + k * 2) [.int .u64 ((es[k].1 : Nat) : Int), d1] := fun j x hx => by
          match j, hx with
          | 0, hx => cases hx; exact q1
          | 1, hx => cases hx; exact q2
        have hra2 : w.rangeAt b2 (o2 + k * 2) [.int .u64 ((fs[k].1 : Nat) : Int), d2] := fun j x hx => by
          match j, hx with
          | 0, hx => cases hx; exact r1
          | 1, hx => cases hx; exact r2
        have Hse := Lib.hid (show es.take (k + 1) = es.take k ++ [(es[k].1, es[k].2)] by rw [List.take_succ_eq_append_getElem hlt])
        have Hsf := Lib.hid (show fs.take (k + 1) = fs.take k ++ [(fs[k].1, fs[k].2)] by rw [List.take_succ_eq_append_getElem hlt2])
        have Hne := Lib.hid (fun (h : ¬ (es[k].1 = fs[k].1 ∧ es[k].2 = fs[k].2)) => (show decide (es = fs) = false by
          simp only [decide_eq_false_iff_not]; intro e; apply h; subst e; exact ⟨rfl, rfl⟩))
        generalize es[k].1 = t1 at *
        generalize es[k].2 = l1 at *
        generalize fs[k].1 = t2 at *
        generalize fs[k].2 = l2 at *
        obtain ⟨dp1, dc1, rfl⟩ : ∃ p c, d1 = .slice p l1.length c := by obtain ⟨p, c, h1, _⟩ := q3.rd; exact ⟨p, c, h1⟩
        obtain ⟨dp2, dc2, rfl⟩ : ∃ p c, d2 = .slice p l2.length c := by obtain ⟨p, c, h1, _⟩ := r3.rd; exact ⟨p, c, h1⟩
        obtain ⟨W2, HW2, hE1, hB2⟩ := stored53 wr t1 (.slice dp1 l1.length dc1)
        obtain ⟨W3, HW3, hE2, hB3⟩ := stored53 W2 t2 (.slice dp2 l2.length dc2)
        have HZ := Lib.hid (heap_alloc_new wr (.cells #[.int .u64 0, .slice none 0 0] 53))
        have HZ2 := Lib.hid (heap_alloc_new W2 (.cells #[.int .u64 0, .slice none 0 0] 53))
        have Hra1 := Lib.hid (rangeAt_below hra1 hb1 HB.out)
        have Hra2 := Lib.hid (rangeAt_below hra2 hb2 (HB.out.trans (hB2.mono HB.out.size)))
        have HE1 := Lib.hid (hE1.keeps hB3.block)
        have HE2 := Lib.hid hE2
        have HB3 := Lib.hid ((HB.out.trans (hB2.mono HB.out.size)).trans (hB3.mono (Nat.le_trans HB.out.size hB2.size)))
        have HC := Lib.hid (sameEntry_w t1 t2 _ _ l1 l2 W3 (q3.rd.keeps HB3.out.block) (r3.rd.keeps HB3.out.block))
        clear q1 q2 q3 r1 r2 r3 hra1 hra2 hE1 hE2 hB2 hB3 hb1 hb2
        by_cases hs : t1 = t2 ∧ l1 = l2
        · obtain ⟨rfl, rfl⟩ := hs
          have hq : decide (t1 = t1 ∧ l1 = l1) = true := by simp
          rw [hq] at HC
          clear hq
          go_wp2_with (first
            | (refine wpList_load_mid rfl 53 (.tmp 20) rfl _ _ rfl [.int .u64 (t1 : Int), .slice dp1 l1.length dc1] _ Hra1.out Try.underlying53 rfl (show _ = some 2 by kernel_rfl) ?_)
            | (refine wpList_alloc_zero rfl 53 rfl _ hz53 ?_)
            | (refine wpList_store_rowTo rfl 53 (.tmp 8) (.tmp 21) rfl rfl _ #[.int .u64 (t1 : Int), .slice dp1 l1.length dc1] rfl rfl 53 #[.int .u64 0, .slice none 0 0] HZ.out (show _ = some 2 by kernel_rfl) rfl (ent_one _ _ _ _) ?_; rw [HW2.out])
            | (refine wpList_load_mid rfl 53 (.tmp 24) rfl _ _ rfl [.int .u64 (t1 : Int), .slice dp2 l1.length dc2] _ Hra2.out Try.underlying53 rfl (show _ = some 2 by kernel_rfl) ?_)
            | (refine wpList_store_rowTo rfl 53 (.tmp 9) (.tmp 25) rfl rfl _ #[.int .u64 (t1 : Int), .slice dp2 l1.length dc2] rfl rfl 53 #[.int .u64 0, .slice none 0 0] HZ2.out (show _ = some 2 by kernel_rfl) rfl (ent_one _ _ _ _) ?_; rw [HW3.out])
            | (refine wpList_load_row rfl 53 (.tmp 8) rfl _ rfl _ _ _ _ HE1.out Try.underlying53 rfl (show _ = some 2 by kernel_rfl) ?_)
            | (refine wpList_load_row rfl 53 (.tmp 9) rfl _ rfl _ _ _ _ HE2.out Try.underlying53 rfl (show _ = some 2 by kernel_rfl) ?_)
            | (go_at_call 73; refine (HC.out).mono ?_; rintro r w5 ⟨rfl, hB⟩; have HB5 := Lib.hid (HB3.out.trans (hB.mono HB3.out.size)); clear hB HC))
          go_roundw
          case rel => exact ⟨k + 1, by omega, by go_num, Lib.hid (by rw [Hse.out, Hsf.out, HT.out]), HB5⟩
          case measure => simp [intOf]; omega
        · have hq : decide (t1 = t2 ∧ l1 = l2) = false := by simp only [decide_eq_false_iff_not]; exact hs
          rw [hq] at HC
          have Hfin := Lib.hid (Hne.out hs)
          clear hq hs
          go_wp2_with (first
            | (refine wpList_load_mid rfl 53 (.tmp 20) rfl _ _ rfl [.int .u64 (t1 : Int), .slice dp1 l1.length dc1] _ Hra1.out Try.underlying53 rfl (show _ = some 2 by kernel_rfl) ?_)
            | (refine wpList_alloc_zero rfl 53 rfl _ hz53 ?_)
            | (refine wpList_store_rowTo rfl 53 (.tmp 8) (.tmp 21) rfl rfl _ #[.int .u64 (t1 : Int), .slice dp1 l1.length dc1] rfl rfl 53 #[.int .u64 0, .slice none 0 0] HZ.out (show _ = some 2 by kernel_rfl) rfl (ent_one _ _ _ _) ?_; rw [HW2.out])
            | (refine wpList_load_mid rfl 53 (.tmp 24) rfl _ _ rfl [.int .u64 (t2 : Int), .slice dp2 l2.length dc2] _ Hra2.out Try.underlying53 rfl (show _ = some 2 by kernel_rfl) ?_)
            | (refine wpList_store_rowTo rfl 53 (.tmp 9) (.tmp 25) rfl rfl _ #[.int .u64 (t2 : Int), .slice dp2 l2.length dc2] rfl rfl 53 #[.int .u64 0, .slice none 0 0] HZ2.out (show _ = some 2 by kernel_rfl) rfl (ent_one _ _ _ _) ?_; rw [HW3.out])
            | (refine wpList_load_row rfl 53 (.tmp 8) rfl _ rfl _ _ _ _ HE1.out Try.underlying53 rfl (show _ = some 2 by kernel_rfl) ?_)
            | (refine wpList_load_row rfl 53 (.tmp 9) rfl _ rfl _ _ _ _ HE2.out Try.underlying53 rfl (show _ = some 2 by kernel_rfl) ?_)
            | (go_at_call 73; refine (HC.out).mono ?_; rintro r w5 ⟨rfl, hB⟩; have HB5 := Lib.hid (HB3.out.trans (hB.mono HB3.out.size)); clear hB HC))
          go_ret
          exact ⟨by rw [Hfin.out]; rfl, HB5.out⟩
      · have hk2 : k = es.length := by omega
        have Hfin := Lib.hid (show decide (es = fs) = true by
          have h1 := HT.out
          rw [hk2, List.take_length, Hl.out, List.take_length] at h1
          simp [h1])
        go_wp2
        go_ret
        exact ⟨by rw [Hfin.out]; rfl, HB.out⟩
  · have e0 : ((es.length : Int) != (fs.length : Int)) = true := by simp; omega
    have e4 : (es.length != fs.length) = true := by simp [hl]
    have hfin : decide (es = fs) = false := by simp only [decide_eq_false_iff_not]; intro e; exact hl (by rw [e])
    rw [hfin]
    clear hl hfin Ha Hb
    generalize es.length = n1 at *
    generalize fs.length = n2 at *
    go_enter Try.func72, Try.ntmps72
    go_wp2
    go_ret
    exact ⟨rfl, Below.refl _ _⟩
end Go.Proofs.Yteellfgiejnigaa
/- The walk of the document's sameEntries (as its twin of the track's: T15). -/
namespace Go.Proofs.Yteellfgiejnigaa
open Go.ChangeShapes Go.WideShapes Go.ChangeAt Go.RowKit
set_option linter.unusedVariables false
set_option maxRecDepth 100000 in
set_option maxHeartbeats 3200000 in
theorem sameEntries_w (R1 R2 : Foot) (va vb : Value) (es fs : List Ent) (w : World) (ha : EsR w R1 va es) (hb : EsR w R2 vb fs) (hn : es.length ≤ 1000000) :
    Calls Try.prog 75 #[va, vb] w fun r w' => r = .returned (.bool (decide (es = fs))) ∧ Below w.heap.size w w' := by
  obtain ⟨pa, ca, rfl⟩ : ∃ p c, va = .slice p es.length c := by obtain ⟨p, c, xs, e, _⟩ := ha; exact ⟨p, c, e⟩
  obtain ⟨pb, cb, rfl⟩ : ∃ p c, vb = .slice p fs.length c := by obtain ⟨p, c, xs, e, _⟩ := hb; exact ⟨p, c, e⟩
  have Ha := Lib.hid ha
  have Hb := Lib.hid hb
  clear ha hb
  by_cases hl : es.length = fs.length
  · have e1 : ((es.length : Int) == (fs.length : Int)) = true := by simp [hl]
    have e2 : (es.length == fs.length) = true := by simp [hl]
    have Hl := Lib.hid hl
    have e3 : decide (es.length = fs.length) = true := by simp [hl]
    have e0 : ((es.length : Int) != (fs.length : Int)) = false := by simp [hl]
    have e4 : (es.length != fs.length) = false := by simp [hl]
    clear hl
    go_enter Try.func75, Try.ntmps75
    go_wp2
    go_loopw [5] (fun i wr => ∃ k : Nat, k ≤ es.length ∧ i = .int .i64 (k : Int) ∧ Hid (es.take k = fs.take k) ∧ Hid (Below w.heap.size w wr)) (fun i _ => es.length - (intOf i).toNat)
    case atStart => exact ⟨0, Nat.zero_le _, rfl, Lib.hid rfl, Lib.hid (Below.refl _ _)⟩
    case round =>
      obtain ⟨k, hk, rfl, HT, HB⟩ := hrel
      by_cases hlt : k < es.length
      · have hlt2 : k < fs.length := by have := Hl.out; omega
        obtain ⟨b1, o1, c1, d1, hv1, q1, q2, q3⟩ := Ha.out.both k hlt
        obtain ⟨b2, o2, c2, d2, hv2, r1, r2, r3⟩ := Hb.out.both k hlt2
        cases hv1
        cases hv2
        have H1 := Lib.hid (And.intro q1 (And.intro q2 q3))
        have H2 := Lib.hid (And.intro r1 (And.intro r2 r3))
        have Hse := Lib.hid (show es.take (k + 1) = es.take k ++ [(es[k].1, es[k].2)] by rw [List.take_succ_eq_append_getElem hlt])
        have Hsf := Lib.hid (show fs.take (k + 1) = fs.take k ++ [(fs[k].1, fs[k].2)] by rw [List.take_succ_eq_append_getElem hlt2])
        have Hne := Lib.hid (fun (h : ¬ (es[k].1 = fs[k].1 ∧ es[k].2 = fs[k].2)) => (show decide (es = fs) = false by
          simp only [decide_eq_false_iff_not]; intro e; apply h; subst e; exact ⟨rfl, rfl⟩))
        have hnb : ¬ ((es.length : Int) ≤ (k : Int)) := by omega
        have hnb2 : ¬ (es.length ≤ k) := by omega
        have hnb3 : ¬ ((fs.length : Int) ≤ (k : Int)) := by omega
        have hnb4 : ¬ (fs.length ≤ k) := by omega
        generalize es[k].1 = t1 at *
        generalize es[k].2 = l1 at *
        generalize fs[k].1 = t2 at *
        generalize fs[k].2 = l2 at *
        obtain ⟨dp1, dc1, rfl⟩ : ∃ p c, d1 = .slice p l1.length c := by obtain ⟨p, c, h1, _⟩ := q3; exact ⟨p, c, h1⟩
        obtain ⟨dp2, dc2, rfl⟩ : ∃ p c, d2 = .slice p l2.length c := by obtain ⟨p, c, h1, _⟩ := r3; exact ⟨p, c, h1⟩
        obtain ⟨S1, E1⟩ : ∃ S, Hid ((⟨l1.toArray⟩ : ByteArray) = S) := ⟨_, Lib.hid rfl⟩
        obtain ⟨S2, E2⟩ : ∃ S, Hid ((⟨l2.toArray⟩ : ByteArray) = S) := ⟨_, Lib.hid rfl⟩
        have HK : Hid (Keeps w wr) := Lib.hid (fun b hb => HB.out.block b hb)
        have HW := Lib.hid (fun (W : World) (h : Keeps w W) => And.intro (And.intro (h.cell H1.out.1) (h.cell H1.out.2.1)) (And.intro (h.cell H2.out.1) (h.cell H2.out.2.1)))
        have HC := Lib.hid (fun (W : World) (h : Keeps w W) => And.intro (run_convert_str (P := Try.prog) (H1.out.2.2.keeps h) 29 5 9 Try.underlying29 Try.underlying5 Try.underlying9) (run_convert_str (P := Try.prog) (H2.out.2.2.keeps h) 29 5 9 Try.underlying29 Try.underlying5 Try.underlying9))
        clear q1 q2 q3 r1 r2 r3 hlt2
        by_cases ht : t1 = t2
        · subst ht
          by_cases hll : l1 = l2
          · subst hll
            go_wp2
            apply RegT.wp_region_T rfl 43 26 rfl (by kernel_rfl) RegT.Grow RegT.Grow.refl RegT.Grow.trans
            · iterate 2
                apply RegT.T_pure rfl rfl rfl
                · intro W hR; go_simp; rfl
                simp only [List.set_cons_succ, List.set_cons_zero, Nat.reduceAdd]
              apply RegT.T_pure (v := .pointer (some ⟨b1, o1 + k * 2, none⟩)) rfl rfl rfl
              · intro W hR; clear hR; go_simp
              simp only [List.set_cons_succ, List.set_cons_zero, Nat.reduceAdd]
              apply RegT.T_pure (v := .pointer (some ⟨b1, o1 + k * 2, none⟩)) rfl rfl rfl
              · intro W hR; clear hR; go_simp
              simp only [List.set_cons_succ, List.set_cons_zero, Nat.reduceAdd]
              apply RegT.T_pure (v := .int .u64 (t1 : Int)) rfl rfl rfl
              · intro W hR
                have hc := (HW.out W (HK.out.trans ((Keeps.refl wr).drew.trans hR.block))).1.1
                clear hR
                go_simp
              simp only [List.set_cons_succ, List.set_cons_zero, Nat.reduceAdd]
              iterate 2
                apply RegT.T_pure rfl rfl rfl
                · intro W hR; go_simp; rfl
                simp only [List.set_cons_succ, List.set_cons_zero, Nat.reduceAdd]
              apply RegT.T_pure (v := .pointer (some ⟨b2, o2 + k * 2, none⟩)) rfl rfl rfl
              · intro W hR; clear hR; go_simp
              simp only [List.set_cons_succ, List.set_cons_zero, Nat.reduceAdd]
              apply RegT.T_pure (v := .pointer (some ⟨b2, o2 + k * 2, none⟩)) rfl rfl rfl
              · intro W hR; clear hR; go_simp
              simp only [List.set_cons_succ, List.set_cons_zero, Nat.reduceAdd]
              apply RegT.T_pure (v := .int .u64 (t1 : Int)) rfl rfl rfl
              · intro W hR
                have hc := (HW.out W (HK.out.trans ((Keeps.refl wr).drew.trans hR.block))).2.1
                clear hR
                go_simp
              simp only [List.set_cons_succ, List.set_cons_zero, Nat.reduceAdd]
              apply RegT.T_pure (v := .bool false) rfl rfl rfl
              · intro W hR; clear hR; go_simp
              simp only [List.set_cons_succ, List.set_cons_zero, Nat.reduceAdd]
              iterate 1
                apply RegT.T_pure rfl rfl rfl
                · intro W hR; go_simp; rfl
                simp only [List.set_cons_succ, List.set_cons_zero, Nat.reduceAdd]
              iterate 2
                apply RegT.T_pure rfl rfl rfl
                · intro W hR; go_simp; rfl
                simp only [List.set_cons_succ, List.set_cons_zero, Nat.reduceAdd]
              apply RegT.T_pure (v := .pointer (some ⟨b1, o1 + k * 2, none⟩)) rfl rfl rfl
              · intro W hR; clear hR; go_simp
              simp only [List.set_cons_succ, List.set_cons_zero, Nat.reduceAdd]
              apply RegT.T_pure (v := .pointer (some ⟨b1, o1 + k * 2 + 1, none⟩)) rfl rfl rfl
              · intro W hR; clear hR; go_simp
              simp only [List.set_cons_succ, List.set_cons_zero, Nat.reduceAdd]
              apply RegT.T_pure (v := .slice dp1 l1.length dc1) rfl rfl rfl
              · intro W hR
                have hc := (HW.out W (HK.out.trans ((Keeps.refl wr).drew.trans hR.block))).1.2
                clear hR
                go_simp
              simp only [List.set_cons_succ, List.set_cons_zero, Nat.reduceAdd]
              apply RegT.T_pure (v := .string S1) rfl rfl rfl
              · intro W hR
                have hc := (HC.out W (HK.out.trans ((Keeps.refl wr).drew.trans hR.block))).1
                rw [E1.out] at hc
                clear hR
                go_simp
              simp only [List.set_cons_succ, List.set_cons_zero, Nat.reduceAdd]
              iterate 2
                apply RegT.T_pure rfl rfl rfl
                · intro W hR; go_simp; rfl
                simp only [List.set_cons_succ, List.set_cons_zero, Nat.reduceAdd]
              apply RegT.T_pure (v := .pointer (some ⟨b2, o2 + k * 2, none⟩)) rfl rfl rfl
              · intro W hR; clear hR; go_simp
              simp only [List.set_cons_succ, List.set_cons_zero, Nat.reduceAdd]
              apply RegT.T_pure (v := .pointer (some ⟨b2, o2 + k * 2 + 1, none⟩)) rfl rfl rfl
              · intro W hR; clear hR; go_simp
              simp only [List.set_cons_succ, List.set_cons_zero, Nat.reduceAdd]
              apply RegT.T_pure (v := .slice dp2 l1.length dc2) rfl rfl rfl
              · intro W hR
                have hc := (HW.out W (HK.out.trans ((Keeps.refl wr).drew.trans hR.block))).2.2
                clear hR
                go_simp
              simp only [List.set_cons_succ, List.set_cons_zero, Nat.reduceAdd]
              apply RegT.T_pure (v := .string S1) rfl rfl rfl
              · intro W hR
                have hc := (HC.out W (HK.out.trans ((Keeps.refl wr).drew.trans hR.block))).2
                rw [E1.out] at hc
                clear hR
                go_simp
              simp only [List.set_cons_succ, List.set_cons_zero, Nat.reduceAdd]
              apply RegT.T_pure (v := .bool false) rfl rfl rfl
              · intro W hR; clear hR; go_simp
              simp only [List.set_cons_succ, List.set_cons_zero, Nat.reduceAdd]
              apply RegT.T_pure (v := .bool false) rfl rfl rfl
              · intro W hR; clear hR; go_simp
              simp only [List.set_cons_succ, List.set_cons_zero, Nat.reduceAdd]
              refine RegT.T_tail (fun W hR hf => ?_)
              have HB2 := Lib.hid (HB.out.trans (((Below.refl _ wr).drew.trans hR).mono HB.out.size))
              clear hR hf
              simp only [List.drop_succ_cons, List.drop_zero]
              go_wp2
              go_roundw
              case rel => exact ⟨k + 1, by omega, by go_num, Lib.hid (by rw [Hse.out, Hsf.out, HT.out]), HB2⟩
              case measure => simp [intOf]; omega
            · rfl
            · kernel_rfl
          · have hs12 : (S1 == S2) = false := by rw [← E1.out, ← E2.out]; exact bytes_ne hll
            have hs0 : ¬ S1.toList = S2.toList := by rw [← E1.out, ← E2.out, ByteArray.toList_eq, ByteArray.toList_eq]; simpa using hll
            go_wp2
            apply RegT.wp_region_T rfl 43 26 rfl (by kernel_rfl) RegT.Grow RegT.Grow.refl RegT.Grow.trans
            · iterate 2
                apply RegT.T_pure rfl rfl rfl
                · intro W hR; go_simp; rfl
                simp only [List.set_cons_succ, List.set_cons_zero, Nat.reduceAdd]
              apply RegT.T_pure (v := .pointer (some ⟨b1, o1 + k * 2, none⟩)) rfl rfl rfl
              · intro W hR; clear hR; go_simp
              simp only [List.set_cons_succ, List.set_cons_zero, Nat.reduceAdd]
              apply RegT.T_pure (v := .pointer (some ⟨b1, o1 + k * 2, none⟩)) rfl rfl rfl
              · intro W hR; clear hR; go_simp
              simp only [List.set_cons_succ, List.set_cons_zero, Nat.reduceAdd]
              apply RegT.T_pure (v := .int .u64 (t1 : Int)) rfl rfl rfl
              · intro W hR
                have hc := (HW.out W (HK.out.trans ((Keeps.refl wr).drew.trans hR.block))).1.1
                clear hR
                go_simp
              simp only [List.set_cons_succ, List.set_cons_zero, Nat.reduceAdd]
              iterate 2
                apply RegT.T_pure rfl rfl rfl
                · intro W hR; go_simp; rfl
                simp only [List.set_cons_succ, List.set_cons_zero, Nat.reduceAdd]
              apply RegT.T_pure (v := .pointer (some ⟨b2, o2 + k * 2, none⟩)) rfl rfl rfl
              · intro W hR; clear hR; go_simp
              simp only [List.set_cons_succ, List.set_cons_zero, Nat.reduceAdd]
              apply RegT.T_pure (v := .pointer (some ⟨b2, o2 + k * 2, none⟩)) rfl rfl rfl
              · intro W hR; clear hR; go_simp
              simp only [List.set_cons_succ, List.set_cons_zero, Nat.reduceAdd]
              apply RegT.T_pure (v := .int .u64 (t1 : Int)) rfl rfl rfl
              · intro W hR
                have hc := (HW.out W (HK.out.trans ((Keeps.refl wr).drew.trans hR.block))).2.1
                clear hR
                go_simp
              simp only [List.set_cons_succ, List.set_cons_zero, Nat.reduceAdd]
              apply RegT.T_pure (v := .bool false) rfl rfl rfl
              · intro W hR; clear hR; go_simp
              simp only [List.set_cons_succ, List.set_cons_zero, Nat.reduceAdd]
              iterate 1
                apply RegT.T_pure rfl rfl rfl
                · intro W hR; go_simp; rfl
                simp only [List.set_cons_succ, List.set_cons_zero, Nat.reduceAdd]
              iterate 2
                apply RegT.T_pure rfl rfl rfl
                · intro W hR; go_simp; rfl
                simp only [List.set_cons_succ, List.set_cons_zero, Nat.reduceAdd]
              apply RegT.T_pure (v := .pointer (some ⟨b1, o1 + k * 2, none⟩)) rfl rfl rfl
              · intro W hR; clear hR; go_simp
              simp only [List.set_cons_succ, List.set_cons_zero, Nat.reduceAdd]
              apply RegT.T_pure (v := .pointer (some ⟨b1, o1 + k * 2 + 1, none⟩)) rfl rfl rfl
              · intro W hR; clear hR; go_simp
              simp only [List.set_cons_succ, List.set_cons_zero, Nat.reduceAdd]
              apply RegT.T_pure (v := .slice dp1 l1.length dc1) rfl rfl rfl
              · intro W hR
                have hc := (HW.out W (HK.out.trans ((Keeps.refl wr).drew.trans hR.block))).1.2
                clear hR
                go_simp
              simp only [List.set_cons_succ, List.set_cons_zero, Nat.reduceAdd]
              apply RegT.T_pure (v := .string S1) rfl rfl rfl
              · intro W hR
                have hc := (HC.out W (HK.out.trans ((Keeps.refl wr).drew.trans hR.block))).1
                rw [E1.out] at hc
                clear hR
                go_simp
              simp only [List.set_cons_succ, List.set_cons_zero, Nat.reduceAdd]
              iterate 2
                apply RegT.T_pure rfl rfl rfl
                · intro W hR; go_simp; rfl
                simp only [List.set_cons_succ, List.set_cons_zero, Nat.reduceAdd]
              apply RegT.T_pure (v := .pointer (some ⟨b2, o2 + k * 2, none⟩)) rfl rfl rfl
              · intro W hR; clear hR; go_simp
              simp only [List.set_cons_succ, List.set_cons_zero, Nat.reduceAdd]
              apply RegT.T_pure (v := .pointer (some ⟨b2, o2 + k * 2 + 1, none⟩)) rfl rfl rfl
              · intro W hR; clear hR; go_simp
              simp only [List.set_cons_succ, List.set_cons_zero, Nat.reduceAdd]
              apply RegT.T_pure (v := .slice dp2 l2.length dc2) rfl rfl rfl
              · intro W hR
                have hc := (HW.out W (HK.out.trans ((Keeps.refl wr).drew.trans hR.block))).2.2
                clear hR
                go_simp
              simp only [List.set_cons_succ, List.set_cons_zero, Nat.reduceAdd]
              apply RegT.T_pure (v := .string S2) rfl rfl rfl
              · intro W hR
                have hc := (HC.out W (HK.out.trans ((Keeps.refl wr).drew.trans hR.block))).2
                rw [E2.out] at hc
                clear hR
                go_simp
              simp only [List.set_cons_succ, List.set_cons_zero, Nat.reduceAdd]
              apply RegT.T_pure (v := .bool true) rfl rfl rfl
              · intro W hR; clear hR; go_simp
              simp only [List.set_cons_succ, List.set_cons_zero, Nat.reduceAdd]
              apply RegT.T_pure (v := .bool true) rfl rfl rfl
              · intro W hR; clear hR; go_simp
              simp only [List.set_cons_succ, List.set_cons_zero, Nat.reduceAdd]
              refine RegT.T_tail (fun W hR hf => ?_)
              have HB2 := Lib.hid (HB.out.trans (((Below.refl _ wr).drew.trans hR).mono HB.out.size))
              clear hR hf
              simp only [List.drop_succ_cons, List.drop_zero]
              go_wp2
              go_ret
              exact ⟨by rw [Hne.out (fun e => hll e.2)]; rfl, HB2.out⟩
            · rfl
            · kernel_rfl
        · have ht1 : (t1 == t2) = false := by simp [ht]
          have ht0 : ¬ ((t1 : Int) = (t2 : Int)) := by omega
          have ht2 : decide (t1 = t2) = false := by simp [ht]
          go_wp2
          apply RegT.wp_region_T rfl 43 26 rfl (by kernel_rfl) RegT.Grow RegT.Grow.refl RegT.Grow.trans
          · iterate 2
              apply RegT.T_pure rfl rfl rfl
              · intro W hR; go_simp; rfl
              simp only [List.set_cons_succ, List.set_cons_zero, Nat.reduceAdd]
            apply RegT.T_pure (v := .pointer (some ⟨b1, o1 + k * 2, none⟩)) rfl rfl rfl
            · intro W hR; clear hR; go_simp
            simp only [List.set_cons_succ, List.set_cons_zero, Nat.reduceAdd]
            apply RegT.T_pure (v := .pointer (some ⟨b1, o1 + k * 2, none⟩)) rfl rfl rfl
            · intro W hR; clear hR; go_simp
            simp only [List.set_cons_succ, List.set_cons_zero, Nat.reduceAdd]
            apply RegT.T_pure (v := .int .u64 (t1 : Int)) rfl rfl rfl
            · intro W hR
              have hc := (HW.out W (HK.out.trans ((Keeps.refl wr).drew.trans hR.block))).1.1
              clear hR
              go_simp
            simp only [List.set_cons_succ, List.set_cons_zero, Nat.reduceAdd]
            iterate 2
              apply RegT.T_pure rfl rfl rfl
              · intro W hR; go_simp; rfl
              simp only [List.set_cons_succ, List.set_cons_zero, Nat.reduceAdd]
            apply RegT.T_pure (v := .pointer (some ⟨b2, o2 + k * 2, none⟩)) rfl rfl rfl
            · intro W hR; clear hR; go_simp
            simp only [List.set_cons_succ, List.set_cons_zero, Nat.reduceAdd]
            apply RegT.T_pure (v := .pointer (some ⟨b2, o2 + k * 2, none⟩)) rfl rfl rfl
            · intro W hR; clear hR; go_simp
            simp only [List.set_cons_succ, List.set_cons_zero, Nat.reduceAdd]
            apply RegT.T_pure (v := .int .u64 (t2 : Int)) rfl rfl rfl
            · intro W hR
              have hc := (HW.out W (HK.out.trans ((Keeps.refl wr).drew.trans hR.block))).2.1
              clear hR
              go_simp
            simp only [List.set_cons_succ, List.set_cons_zero, Nat.reduceAdd]
            apply RegT.T_pure (v := .bool true) rfl rfl rfl
            · intro W hR; clear hR; go_simp
            simp only [List.set_cons_succ, List.set_cons_zero, Nat.reduceAdd]
            iterate 1
              apply RegT.T_pure rfl rfl rfl
              · intro W hR; go_simp; rfl
              simp only [List.set_cons_succ, List.set_cons_zero, Nat.reduceAdd]
            iterate 13
              apply RegT.T_skip rfl rfl rfl
              simp only [List.set_cons_succ, List.set_cons_zero, Nat.reduceAdd]
            apply RegT.T_pure (v := .bool true) rfl rfl rfl
            · intro W hR; clear hR; go_simp
            simp only [List.set_cons_succ, List.set_cons_zero, Nat.reduceAdd]
            refine RegT.T_tail (fun W hR hf => ?_)
            have HB2 := Lib.hid (HB.out.trans (((Below.refl _ wr).drew.trans hR).mono HB.out.size))
            clear hR hf
            simp only [List.drop_succ_cons, List.drop_zero]
            go_wp2
            go_ret
            exact ⟨by rw [Hne.out (fun e => ht e.1)]; rfl, HB2.out⟩
          · rfl
          · kernel_rfl
      · have hk2 : k = es.length := by omega
        have Hfin := Lib.hid (show decide (es = fs) = true by
          have h1 := HT.out
          rw [hk2, List.take_length, Hl.out, List.take_length] at h1
          simp [h1])
        go_wp2
        go_ret
        exact ⟨by rw [Hfin.out]; rfl, HB.out⟩
  · have e1 : ((es.length : Int) == (fs.length : Int)) = false := by simp; omega
    have e2 : (es.length == fs.length) = false := by simp [hl]
    have e3 : decide (es.length = fs.length) = false := by simp [hl]
    have Hf := Lib.hid (show decide (es = fs) = false by simp only [decide_eq_false_iff_not]; intro e; exact hl (by rw [e]))
    clear hl
    go_enter Try.func75, Try.ntmps75
    go_wp2
    go_ret
    exact ⟨by rw [Hf.out]; rfl, Below.refl _ _⟩
end Go.Proofs.Yteellfgiejnigaa
/- A note, and the walks of notes.Same and of the document's. -/
namespace Go.Proofs.Yteellfgiejnigaa
open Go.ChangeShapes Go.WideShapes Go.ChangeAt Go.RowKit
set_option linter.unusedVariables false
/-- A note. -/
structure Nt where
  kind : Nat
  term : Nat
  round : Nat
  index : Nat
  at_ : Nat
  commit : Nat
  yes : Bool
  list : List Ent
  data : List UInt8
def sameN (x z : Nt) : Bool := decide (x.kind = z.kind ∧ x.term = z.term ∧ x.round = z.round ∧ x.index = z.index ∧ x.at_ = z.at_ ∧ x.commit = z.commit ∧ x.yes = z.yes ∧ x.list = z.list ∧ x.data = z.data)
theorem sameN_iff (x z : Nt) : sameN x z = true ↔ x = z := by
  unfold sameN
  simp only [decide_eq_true_eq]
  constructor
  · obtain ⟨a1, a2, a3, a4, a5, a6, a7, a8, a9⟩ := x
    obtain ⟨b1, b2, b3, b4, b5, b6, b7, b8, b9⟩ := z
    rintro ⟨h1, h2, h3, h4, h5, h6, h7, h8, h9⟩
    dsimp only at h1 h2 h3 h4 h5 h6 h7 h8 h9
    subst h1 h2 h3 h4 h5 h6 h7 h8 h9
    rfl
  · rintro rfl
    exact ⟨rfl, rfl, rfl, rfl, rfl, rfl, rfl, rfl, rfl⟩
/-- The note's value. -/
def ntv (x : Nt) (lv dv : Value) : Value := .agg #[.int .u8 (x.kind : Int), .int .u64 (x.term : Int), .int .u64 (x.round : Int), .int .u64 (x.index : Int), .int .u64 (x.at_ : Int), .int .u64 (x.commit : Int), .bool x.yes, lv, dv]
/-- It lies there. -/
structure NtA (w : World) (S : Foot) (lv dv : Value) (x : Nt) : Prop where
  l : EsR w S lv x.list
  d : DatA w S dv x.data
  kind : x.kind < 256
  term : x.term < 2 ^ 64
  round : x.round < 2 ^ 64
  index : x.index < 2 ^ 64
  at_ : x.at_ < 2 ^ 64
  commit : x.commit < 2 ^ 64
theorem NtA.keeps {w w' : World} {S : Foot} {lv dv : Value} {x : Nt} (h : NtA w S lv dv x) (hk : Keeps w w') : NtA w' S lv dv x := ⟨h.l.keeps hk, h.d.keeps hk, h.kind, h.term, h.round, h.index, h.at_, h.commit⟩
theorem NtA.frame {w w' : World} {S : Foot} {lv dv : Value} {x : Nt} (h : NtA w S lv dv x) (hs : SameOn S w w') : NtA w' S lv dv x := ⟨h.l.frame hs, h.d.frame hs, h.kind, h.term, h.round, h.index, h.at_, h.commit⟩
theorem NtA.mono {w : World} {S S' : Foot} {lv dv : Value} {x : Nt} (h : NtA w S lv dv x) (hs : ∀ b, b < w.heap.size → S b → S' b) : NtA w S' lv dv x := ⟨h.l.mono hs, h.d.mono hs, h.kind, h.term, h.round, h.index, h.at_, h.commit⟩
theorem NtA.forms {w : World} {S : Foot} {lv dv : Value} {x : Nt} (h : NtA w S lv dv x) : (∃ p c, lv = .slice p x.list.length c) ∧ ∃ p c, dv = .slice p x.data.length c := ⟨h.l.len_form, by obtain ⟨p, c, e, _⟩ := h.d.rd; exact ⟨p, c, e⟩⟩
set_option maxRecDepth 100000 in
set_option maxHeartbeats 6400000 in
theorem noteSame_w (x z : Nt) (lv1 dv1 lv2 dv2 : Value) (S1 S2 : Foot) (w : World) (h1 : NtA w S1 lv1 dv1 x) (h2 : NtA w S2 lv2 dv2 z) (hn : x.list.length ≤ 1000000) :
    Calls Try.prog 19 #[ntv x lv1 dv1, ntv z lv2 dv2] w fun e w' => e = .returned (.bool (sameN x z)) ∧ Below w.heap.size w w' := by
  obtain ⟨k1, t1, r1, i1, a1, c1, y1, L1, D1⟩ := x
  obtain ⟨k2, t2, r2, i2, a2, c2, y2, L2, D2⟩ := z
  obtain ⟨⟨pl1, cl1, rfl⟩, ⟨pd1, cd1, rfl⟩⟩ := h1.forms
  obtain ⟨⟨pl2, cl2, rfl⟩, ⟨pd2, cd2, rfl⟩⟩ := h2.forms
  unfold ntv sameN
  dsimp only at hn ⊢
  have HB0 := Lib.hid (((Below.refl w.heap.size w).alloc (Nat.le_refl _) (.cells #[.int .u8 (k1 : Int), .int .u64 (t1 : Int), .int .u64 (r1 : Int), .int .u64 (i1 : Int), .int .u64 (a1 : Int), .int .u64 (c1 : Int), .bool y1, .slice pl1 L1.length cl1, .slice pd1 D1.length cd1] 31)).alloc (by simp) (.cells #[.int .u8 (k2 : Int), .int .u64 (t2 : Int), .int .u64 (r2 : Int), .int .u64 (i2 : Int), .int .u64 (a2 : Int), .int .u64 (c2 : Int), .bool y2, .slice pl2 L2.length cl2, .slice pd2 D2.length cd2] 31))
  have HL1 := Lib.hid (h1.l.keeps HB0.out.block)
  have HL2 := Lib.hid (h2.l.keeps HB0.out.block)
  have HD1 := Lib.hid (h1.d.rd.keeps HB0.out.block)
  have HD2 := Lib.hid (h2.d.rd.keeps HB0.out.block)
  clear h1 h2
  dsimp only at HL1 HL2 HD1 HD2 HB0 ⊢
  by_cases h0 : k1 = k2
  · subst h0
    by_cases h1 : t1 = t2
    · subst h1
      by_cases h2 : r1 = r2
      · subst h2
        by_cases h3 : i1 = i2
        · subst h3
          by_cases h4 : a1 = a2
          · subst h4
            by_cases h5 : c1 = c2
            · subst h5
              by_cases h6 : y1 = y2
              · subst h6
                have hq : decide (k1 = k1 ∧ t1 = t1 ∧ r1 = r1 ∧ i1 = i1 ∧ a1 = a1 ∧ c1 = c1 ∧ y1 = y1 ∧ L1 = L2 ∧ D1 = D2) = (decide (L1 = L2) && decide (D1 = D2)) := by simp
                rw [hq]
                clear hq
                have HCl := Lib.hid (equalFunc_w _ _ _ _ L1 L2 _ HL1.out HL2.out hn)
                clear HL1 HL2
                cases hl : decide (L1 = L2) with
                | false =>
                  rw [hl] at HCl
                  rw [Bool.false_and]
                  clear hl HD1 HD2
                  go_enter Try.func19, Try.ntmps19
                  go_wp2_with (go_at_call 72; refine (HCl.out).mono ?_; rintro e w2 ⟨rfl, hB⟩; have HB2 := Lib.hid (HB0.out.trans (hB.mono HB0.out.size)); clear hB HCl)
                  go_ret
                  exact ⟨rfl, HB2.out⟩
                | true =>
                  rw [hl] at HCl
                  rw [Bool.true_and]
                  clear hl
                  have HCd := Lib.hid (fun (W : World) (hW : RdB W (.slice pd1 D1.length cd1) D1) (hW2 : RdB W (.slice pd2 D2.length cd2) D2) => bytesEq_w _ _ D1 D2 W hW hW2)
                  generalize decide (D1 = D2) = q at *
                  go_enter Try.func19, Try.ntmps19
                  go_wp2_with (first
                    | (go_at_call 72; refine (HCl.out).mono ?_; rintro e w2 ⟨rfl, hB⟩; have HB2 := Lib.hid (HB0.out.trans (hB.mono HB0.out.size)); have HE1 := Lib.hid (HD1.out.keeps hB.block); have HE2 := Lib.hid (HD2.out.keeps hB.block); have x18 := (hB.cell (p := ⟨w.heap.size, 8, none⟩) (by simp; omega)).trans (show _ = some (.slice pd1 D1.length cd1) by simp); have x28 := (hB.cell (p := ⟨w.heap.size + 1, 8, none⟩) (by simp)).trans (show _ = some (.slice pd2 D2.length cd2) by simp); clear hB HCl)
                    | (go_at_call 74; refine (HCd.out _ HE1.out HE2.out).mono ?_; rintro e w3 ⟨rfl, hB⟩; have HB3 := Lib.hid (HB2.out.trans (hB.mono HB2.out.size)); clear hB HCd))
                  go_ret
                  exact ⟨rfl, HB3.out⟩
              · have e1 : (y1 == y2) = false := by simpa using h6
                have hq : decide (k1 = k1 ∧ t1 = t1 ∧ r1 = r1 ∧ i1 = i1 ∧ a1 = a1 ∧ c1 = c1 ∧ y1 = y2 ∧ L1 = L2 ∧ D1 = D2) = false := by simp only [decide_eq_false_iff_not]; intro e; exact h6 e.2.2.2.2.2.2.1
                rw [hq]
                clear hq h6 HL1 HL2 HD1 HD2
                go_enter Try.func19, Try.ntmps19
                go_wp2
                go_ret
                exact ⟨rfl, HB0.out⟩
            · have e1 : (c1 == c2) = false := by simp; omega
              have e2 : decide (c1 = c2) = false := by simp; omega
              have e3 : ((c1 : Int) == (c2 : Int)) = false := by simp; omega
              have e4 : decide ((c1 : Int) = (c2 : Int)) = false := by simp; omega
              have hq : decide (k1 = k1 ∧ t1 = t1 ∧ r1 = r1 ∧ i1 = i1 ∧ a1 = a1 ∧ c1 = c2 ∧ y1 = y2 ∧ L1 = L2 ∧ D1 = D2) = false := by simp only [decide_eq_false_iff_not]; intro e; exact h5 e.2.2.2.2.2.1
              rw [hq]
              clear hq h5 HL1 HL2 HD1 HD2
              go_enter Try.func19, Try.ntmps19
              go_wp2
              go_ret
              exact ⟨rfl, HB0.out⟩
          · have e1 : (a1 == a2) = false := by simp; omega
            have e2 : decide (a1 = a2) = false := by simp; omega
            have e3 : ((a1 : Int) == (a2 : Int)) = false := by simp; omega
            have e4 : decide ((a1 : Int) = (a2 : Int)) = false := by simp; omega
            have hq : decide (k1 = k1 ∧ t1 = t1 ∧ r1 = r1 ∧ i1 = i1 ∧ a1 = a2 ∧ c1 = c2 ∧ y1 = y2 ∧ L1 = L2 ∧ D1 = D2) = false := by simp only [decide_eq_false_iff_not]; intro e; exact h4 e.2.2.2.2.1
            rw [hq]
            clear hq h4 HL1 HL2 HD1 HD2
            go_enter Try.func19, Try.ntmps19
            go_wp2
            go_ret
            exact ⟨rfl, HB0.out⟩
        · have e1 : (i1 == i2) = false := by simp; omega
          have e2 : decide (i1 = i2) = false := by simp; omega
          have e3 : ((i1 : Int) == (i2 : Int)) = false := by simp; omega
          have e4 : decide ((i1 : Int) = (i2 : Int)) = false := by simp; omega
          have hq : decide (k1 = k1 ∧ t1 = t1 ∧ r1 = r1 ∧ i1 = i2 ∧ a1 = a2 ∧ c1 = c2 ∧ y1 = y2 ∧ L1 = L2 ∧ D1 = D2) = false := by simp only [decide_eq_false_iff_not]; intro e; exact h3 e.2.2.2.1
          rw [hq]
          clear hq h3 HL1 HL2 HD1 HD2
          go_enter Try.func19, Try.ntmps19
          go_wp2
          go_ret
          exact ⟨rfl, HB0.out⟩
      · have e1 : (r1 == r2) = false := by simp; omega
        have e2 : decide (r1 = r2) = false := by simp; omega
        have e3 : ((r1 : Int) == (r2 : Int)) = false := by simp; omega
        have e4 : decide ((r1 : Int) = (r2 : Int)) = false := by simp; omega
        have hq : decide (k1 = k1 ∧ t1 = t1 ∧ r1 = r2 ∧ i1 = i2 ∧ a1 = a2 ∧ c1 = c2 ∧ y1 = y2 ∧ L1 = L2 ∧ D1 = D2) = false := by simp only [decide_eq_false_iff_not]; intro e; exact h2 e.2.2.1
        rw [hq]
        clear hq h2 HL1 HL2 HD1 HD2
        go_enter Try.func19, Try.ntmps19
        go_wp2
        go_ret
        exact ⟨rfl, HB0.out⟩
    · have e1 : (t1 == t2) = false := by simp; omega
      have e2 : decide (t1 = t2) = false := by simp; omega
      have e3 : ((t1 : Int) == (t2 : Int)) = false := by simp; omega
      have e4 : decide ((t1 : Int) = (t2 : Int)) = false := by simp; omega
      have hq : decide (k1 = k1 ∧ t1 = t2 ∧ r1 = r2 ∧ i1 = i2 ∧ a1 = a2 ∧ c1 = c2 ∧ y1 = y2 ∧ L1 = L2 ∧ D1 = D2) = false := by simp only [decide_eq_false_iff_not]; intro e; exact h1 e.2.1
      rw [hq]
      clear hq h1 HL1 HL2 HD1 HD2
      go_enter Try.func19, Try.ntmps19
      go_wp2
      go_ret
      exact ⟨rfl, HB0.out⟩
  · have e1 : (k1 == k2) = false := by simp; omega
    have e2 : decide (k1 = k2) = false := by simp; omega
    have e3 : ((k1 : Int) == (k2 : Int)) = false := by simp; omega
    have e4 : decide ((k1 : Int) = (k2 : Int)) = false := by simp; omega
    have hq : decide (k1 = k2 ∧ t1 = t2 ∧ r1 = r2 ∧ i1 = i2 ∧ a1 = a2 ∧ c1 = c2 ∧ y1 = y2 ∧ L1 = L2 ∧ D1 = D2) = false := by simp only [decide_eq_false_iff_not]; intro e; exact h0 e.1
    rw [hq]
    clear hq h0 HL1 HL2 HD1 HD2
    go_enter Try.func19, Try.ntmps19
    go_wp2
    go_ret
    exact ⟨rfl, HB0.out⟩
set_option maxRecDepth 100000 in
set_option maxHeartbeats 6400000 in
theorem rnoteSame_w (x z : Nt) (lv1 dv1 lv2 dv2 : Value) (S1 S2 : Foot) (w : World) (h1 : NtA w S1 lv1 dv1 x) (h2 : NtA w S2 lv2 dv2 z) (hn : x.list.length ≤ 1000000) :
    Calls Try.prog 20 #[ntv x lv1 dv1, ntv z lv2 dv2] w fun e w' => e = .returned (.bool (sameN x z)) ∧ Below w.heap.size w w' := by
  obtain ⟨k1, t1, r1, i1, a1, c1, y1, L1, D1⟩ := x
  obtain ⟨k2, t2, r2, i2, a2, c2, y2, L2, D2⟩ := z
  obtain ⟨⟨pl1, cl1, rfl⟩, ⟨pd1, cd1, rfl⟩⟩ := h1.forms
  obtain ⟨⟨pl2, cl2, rfl⟩, ⟨pd2, cd2, rfl⟩⟩ := h2.forms
  unfold ntv sameN
  dsimp only at hn ⊢
  have HB0 := Lib.hid (((Below.refl w.heap.size w).alloc (Nat.le_refl _) (.cells #[.int .u8 (k1 : Int), .int .u64 (t1 : Int), .int .u64 (r1 : Int), .int .u64 (i1 : Int), .int .u64 (a1 : Int), .int .u64 (c1 : Int), .bool y1, .slice pl1 L1.length cl1, .slice pd1 D1.length cd1] 31)).alloc (by simp) (.cells #[.int .u8 (k2 : Int), .int .u64 (t2 : Int), .int .u64 (r2 : Int), .int .u64 (i2 : Int), .int .u64 (a2 : Int), .int .u64 (c2 : Int), .bool y2, .slice pl2 L2.length cl2, .slice pd2 D2.length cd2] 31))
  have HL1 := Lib.hid (h1.l.keeps HB0.out.block)
  have HL2 := Lib.hid (h2.l.keeps HB0.out.block)
  have HD1 := Lib.hid (h1.d.rd.keeps HB0.out.block)
  have HD2 := Lib.hid (h2.d.rd.keeps HB0.out.block)
  clear h1 h2
  dsimp only at HL1 HL2 HD1 HD2 HB0 ⊢
  by_cases h0 : k1 = k2
  · subst h0
    by_cases h1 : t1 = t2
    · subst h1
      by_cases h2 : r1 = r2
      · subst h2
        by_cases h3 : i1 = i2
        · subst h3
          by_cases h4 : a1 = a2
          · subst h4
            by_cases h5 : c1 = c2
            · subst h5
              by_cases h6 : y1 = y2
              · subst h6
                have hq : decide (k1 = k1 ∧ t1 = t1 ∧ r1 = r1 ∧ i1 = i1 ∧ a1 = a1 ∧ c1 = c1 ∧ y1 = y1 ∧ L1 = L2 ∧ D1 = D2) = (decide (L1 = L2) && decide (D1 = D2)) := by simp
                rw [hq]
                clear hq
                have HCl := Lib.hid (sameEntries_w _ _ _ _ L1 L2 _ HL1.out HL2.out hn)
                clear HL1 HL2
                cases hl : decide (L1 = L2) with
                | false =>
                  rw [hl] at HCl
                  rw [Bool.false_and]
                  clear hl HD1 HD2
                  go_enter Try.func20, Try.ntmps20
                  go_wp2_with (go_at_call 75; refine (HCl.out).mono ?_; rintro e w2 ⟨rfl, hB⟩; have HB2 := Lib.hid (HB0.out.trans (hB.mono HB0.out.size)); clear hB HCl)
                  go_ret
                  exact ⟨rfl, HB2.out⟩
                | true =>
                  rw [hl] at HCl
                  rw [Bool.true_and]
                  clear hl
                  have es := str_beq D1 D2
                  have HC1 := Lib.hid (fun (W : World) (hW : RdB W (.slice pd1 D1.length cd1) D1) => run_convert_str (P := Try.prog) hW 29 5 9 Try.underlying29 Try.underlying5 Try.underlying9)
                  have HC2 := Lib.hid (fun (W : World) (hW : RdB W (.slice pd2 D2.length cd2) D2) => run_convert_str (P := Try.prog) hW 29 5 9 Try.underlying29 Try.underlying5 Try.underlying9)
                  generalize decide (D1 = D2) = q at *
                  obtain ⟨Z1, hZ1⟩ : ∃ Z, (⟨D1.toArray⟩ : ByteArray) = Z := ⟨_, rfl⟩
                  obtain ⟨Z2, hZ2⟩ : ∃ Z, (⟨D2.toArray⟩ : ByteArray) = Z := ⟨_, rfl⟩
                  rw [hZ1] at HC1 es
                  rw [hZ2] at HC2 es
                  clear hZ1 hZ2
                  go_enter Try.func20, Try.ntmps20
                  go_wp2_with (go_at_call 75; refine (HCl.out).mono ?_; rintro e w2 ⟨rfl, hB⟩; have HB2 := Lib.hid (HB0.out.trans (hB.mono HB0.out.size)); have hc1 := HC1.out w2 (HD1.out.keeps hB.block); have hc2 := HC2.out w2 (HD2.out.keeps hB.block); have x18 := (hB.cell (p := ⟨w.heap.size, 8, none⟩) (by simp; omega)).trans (show _ = some (.slice pd1 D1.length cd1) by simp); have x28 := (hB.cell (p := ⟨w.heap.size + 1, 8, none⟩) (by simp)).trans (show _ = some (.slice pd2 D2.length cd2) by simp); clear hB HCl)
                  go_ret
                  exact ⟨rfl, HB2.out⟩
              · have e1 : (y1 == y2) = false := by simpa using h6
                have hq : decide (k1 = k1 ∧ t1 = t1 ∧ r1 = r1 ∧ i1 = i1 ∧ a1 = a1 ∧ c1 = c1 ∧ y1 = y2 ∧ L1 = L2 ∧ D1 = D2) = false := by simp only [decide_eq_false_iff_not]; intro e; exact h6 e.2.2.2.2.2.2.1
                rw [hq]
                clear hq h6 HL1 HL2 HD1 HD2
                go_enter Try.func20, Try.ntmps20
                go_wp2
                go_ret
                exact ⟨rfl, HB0.out⟩
            · have e1 : (c1 == c2) = false := by simp; omega
              have e2 : decide (c1 = c2) = false := by simp; omega
              have e3 : ((c1 : Int) == (c2 : Int)) = false := by simp; omega
              have e4 : decide ((c1 : Int) = (c2 : Int)) = false := by simp; omega
              have hq : decide (k1 = k1 ∧ t1 = t1 ∧ r1 = r1 ∧ i1 = i1 ∧ a1 = a1 ∧ c1 = c2 ∧ y1 = y2 ∧ L1 = L2 ∧ D1 = D2) = false := by simp only [decide_eq_false_iff_not]; intro e; exact h5 e.2.2.2.2.2.1
              rw [hq]
              clear hq h5 HL1 HL2 HD1 HD2
              go_enter Try.func20, Try.ntmps20
              go_wp2
              go_ret
              exact ⟨rfl, HB0.out⟩
          · have e1 : (a1 == a2) = false := by simp; omega
            have e2 : decide (a1 = a2) = false := by simp; omega
            have e3 : ((a1 : Int) == (a2 : Int)) = false := by simp; omega
            have e4 : decide ((a1 : Int) = (a2 : Int)) = false := by simp; omega
            have hq : decide (k1 = k1 ∧ t1 = t1 ∧ r1 = r1 ∧ i1 = i1 ∧ a1 = a2 ∧ c1 = c2 ∧ y1 = y2 ∧ L1 = L2 ∧ D1 = D2) = false := by simp only [decide_eq_false_iff_not]; intro e; exact h4 e.2.2.2.2.1
            rw [hq]
            clear hq h4 HL1 HL2 HD1 HD2
            go_enter Try.func20, Try.ntmps20
            go_wp2
            go_ret
            exact ⟨rfl, HB0.out⟩
        · have e1 : (i1 == i2) = false := by simp; omega
          have e2 : decide (i1 = i2) = false := by simp; omega
          have e3 : ((i1 : Int) == (i2 : Int)) = false := by simp; omega
          have e4 : decide ((i1 : Int) = (i2 : Int)) = false := by simp; omega
          have hq : decide (k1 = k1 ∧ t1 = t1 ∧ r1 = r1 ∧ i1 = i2 ∧ a1 = a2 ∧ c1 = c2 ∧ y1 = y2 ∧ L1 = L2 ∧ D1 = D2) = false := by simp only [decide_eq_false_iff_not]; intro e; exact h3 e.2.2.2.1
          rw [hq]
          clear hq h3 HL1 HL2 HD1 HD2
          go_enter Try.func20, Try.ntmps20
          go_wp2
          go_ret
          exact ⟨rfl, HB0.out⟩
      · have e1 : (r1 == r2) = false := by simp; omega
        have e2 : decide (r1 = r2) = false := by simp; omega
        have e3 : ((r1 : Int) == (r2 : Int)) = false := by simp; omega
        have e4 : decide ((r1 : Int) = (r2 : Int)) = false := by simp; omega
        have hq : decide (k1 = k1 ∧ t1 = t1 ∧ r1 = r2 ∧ i1 = i2 ∧ a1 = a2 ∧ c1 = c2 ∧ y1 = y2 ∧ L1 = L2 ∧ D1 = D2) = false := by simp only [decide_eq_false_iff_not]; intro e; exact h2 e.2.2.1
        rw [hq]
        clear hq h2 HL1 HL2 HD1 HD2
        go_enter Try.func20, Try.ntmps20
        go_wp2
        go_ret
        exact ⟨rfl, HB0.out⟩
    · have e1 : (t1 == t2) = false := by simp; omega
      have e2 : decide (t1 = t2) = false := by simp; omega
      have e3 : ((t1 : Int) == (t2 : Int)) = false := by simp; omega
      have e4 : decide ((t1 : Int) = (t2 : Int)) = false := by simp; omega
      have hq : decide (k1 = k1 ∧ t1 = t2 ∧ r1 = r2 ∧ i1 = i2 ∧ a1 = a2 ∧ c1 = c2 ∧ y1 = y2 ∧ L1 = L2 ∧ D1 = D2) = false := by simp only [decide_eq_false_iff_not]; intro e; exact h1 e.2.1
      rw [hq]
      clear hq h1 HL1 HL2 HD1 HD2
      go_enter Try.func20, Try.ntmps20
      go_wp2
      go_ret
      exact ⟨rfl, HB0.out⟩
  · have e1 : (k1 == k2) = false := by simp; omega
    have e2 : decide (k1 = k2) = false := by simp; omega
    have e3 : ((k1 : Int) == (k2 : Int)) = false := by simp; omega
    have e4 : decide ((k1 : Int) = (k2 : Int)) = false := by simp; omega
    have hq : decide (k1 = k2 ∧ t1 = t2 ∧ r1 = r2 ∧ i1 = i2 ∧ a1 = a2 ∧ c1 = c2 ∧ y1 = y2 ∧ L1 = L2 ∧ D1 = D2) = false := by simp only [decide_eq_false_iff_not]; intro e; exact h0 e.1
    rw [hq]
    clear hq h0 HL1 HL2 HD1 HD2
    go_enter Try.func20, Try.ntmps20
    go_wp2
    go_ret
    exact ⟨rfl, HB0.out⟩
end Go.Proofs.Yteellfgiejnigaa
/- A note that came in, by value. -/
namespace Go.Proofs.Yteellfgiejnigaa
open Go.ChangeShapes Go.WideShapes Go.ChangeAt Go.RowKit Go.Deep
set_option linter.unusedVariables false
section
variable {H : Type} {enc : TypeId × Value → H} {w : World} {base : Nat} {spare : Nat → Bool} {held : Bool}
theorem int_of_trod {cs : List Value} {off m : Nat} {k : IntKind} {t : TypeId} {x : DataW H × List MemPlace} (hu : Try.prog.underlying t = some (.int k)) (hc : Try.prog.cellsOf t = 1)
    (h : DataW.trod enc Try.prog w base (fun _ => true) held m t ((cs.drop off).take (Try.prog.cellsOf t)) = some x) : ∃ n, cs[off]? = some (.int k n) ∧ (Lit.int k n).wf = true := by
  rw [hc] at h
  obtain ⟨n, h1, -, h3⟩ := DataW.trod_int hu h
  exact ⟨n, cell_of_take h1, h3⟩
theorem nat_of_trod {cs : List Value} {off m : Nat} {t : TypeId} {x : DataW H × List MemPlace} (hu : Try.prog.underlying t = some (.int .u64)) (hc : Try.prog.cellsOf t = 1)
    (h : DataW.trod enc Try.prog w base (fun _ => true) held m t ((cs.drop off).take (Try.prog.cellsOf t)) = some x) : ∃ n : Nat, cs[off]? = some (.int .u64 (n : Int)) ∧ n < 2 ^ 64 := by
  obtain ⟨n, h1, h2⟩ := int_of_trod hu hc h
  have := wf_u64 h2
  exact ⟨n.toNat, by rw [h1, Int.toNat_of_nonneg this.1], by omega⟩
theorem wf_u8 {n : Int} (h : (Lit.int .u8 n).wf = true) : 0 ≤ n ∧ n ≤ 255 := by
  simpa [Lit.wf, IntKind.min, IntKind.max, IntKind.signed, IntKind.bits] using h
theorem slice_of_trod {cs : List Value} {off m : Nat} {t e : TypeId} {x : DataW H × List MemPlace} (hu : Try.prog.underlying t = some (.slice e)) (hc : Try.prog.cellsOf t = 1)
    (h : DataW.trod enc Try.prog w base (fun _ => true) held m t ((cs.drop off).take (Try.prog.cellsOf t)) = some x) : ∃ a l c, cs[off]? = some (.slice a l c) ∧ DataW.Trod enc Try.prog w base (fun _ => true) held t (.slice a l c) x.1 x.2 := by
  rw [hc] at h
  obtain ⟨a, l, c, e⟩ := Go.Joins.slice_form hu h
  rw [e] at h
  exact ⟨a, l, c, cell_of_take e, m, h⟩
theorem bool_of_trod {cs : List Value} {off m : Nat} {t : TypeId} {x : DataW H × List MemPlace} (hu : Try.prog.underlying t = some .bool) (hc : Try.prog.cellsOf t = 1)
    (h : DataW.trod enc Try.prog w base (fun _ => true) held m t ((cs.drop off).take (Try.prog.cellsOf t)) = some x) : ∃ b, cs[off]? = some (.bool b) := by
  rw [hc] at h
  obtain ⟨b, h1, -⟩ := DataW.trod_bool hu h
  exact ⟨b, cell_of_take h1⟩

set_option maxRecDepth 100000 in
theorem nt_of_trod {v : Value} {d : DataW H} {p : List MemPlace} {base' : Nat} (hz : ∀ b off, MemPlace.cell b off ∈ p → w.frozen? ⟨b, off, none⟩ = false) (hs : Fits Try.prog 31 d)
    (hk : Value.okWide Try.prog w .any base' 31 v) (h : DataW.Trod enc Try.prog w base (fun _ => true) true 31 v d p) :
    ∃ x : Nt × Value × Value, v = ntv x.1 x.2.1 x.2.2 ∧ NtA w (fun b => b < w.heap.size) x.2.1 x.2.2 x.1 ∧ (∀ e ∈ x.1.list, e.2.length ≤ 140737488351232) ∧ x.1.data.length ≤ 140737488351232 := by
  obtain ⟨cs, rfl, hsz⟩ := okWide_struct Try.underlying31 hk
  rw [show Try.prog.cellsOf 31 = 9 by kernel_rfl] at hsz
  obtain ⟨fuel, hf⟩ := h
  obtain ⟨ys, m, _, hyx, hlen, hyl, hff⟩ := DataW.trod_struct Try.underlying31 hf
  simp only [Prod.mk.injEq] at hyx
  obtain ⟨l⟩ := cs
  have hl : l.length = 9 := hsz
  have hcs : (Value.agg ⟨l⟩).cells.toList = l := rfl
  rw [hcs] at hff
  have hy : ∀ j, j < 9 → ∃ y, ys[j]? = some y := fun j hj => ⟨ys[j]'(by rw [hyl]; exact hj), List.getElem?_eq_getElem _⟩
  have hfit : ∀ (j : Nat) (y : DataW H × List MemPlace) (t : TypeId), ys[j]? = some y → ([27, 22, 22, 22, 22, 22, 4, 28, 29] : List TypeId)[j]? = some t → Fits Try.prog t y.1 := by
    intro j y t hj ht z hz'
    refine hs z ?_
    rw [hyx.1, DataW.weights, Try.underlying31]
    refine DataW.weights_mem_each (j := j) (t := t) (d := y.1) ?_ ?_ z hz'
    · exact ht
    · rw [List.getElem?_map, hj]; rfl
  have hin : ∀ (j : Nat) (y : DataW H × List MemPlace), ys[j]? = some y → ∀ x ∈ y.2, x ∈ p := by
    intro j y hj x hx
    rw [hyx.2]
    obtain ⟨hjl, e⟩ := List.getElem?_eq_some_iff.1 hj
    exact List.mem_flatMap.2 ⟨y, e ▸ List.getElem_mem _, hx⟩
  have c4 : Try.prog.cellsOf 4 = 1 := by kernel_rfl
  have c27 : Try.prog.cellsOf 27 = 1 := by kernel_rfl
  have c22 : Try.prog.cellsOf 22 = 1 := by kernel_rfl
  have c28 : Try.prog.cellsOf 28 = 1 := by kernel_rfl
  have c29 : Try.prog.cellsOf 29 = 1 := by kernel_rfl
  obtain ⟨y0, e0⟩ := hy 0 (by decide)
  obtain ⟨y1, e1⟩ := hy 1 (by decide)
  obtain ⟨y2, e2⟩ := hy 2 (by decide)
  obtain ⟨y3, e3⟩ := hy 3 (by decide)
  obtain ⟨y4, e4⟩ := hy 4 (by decide)
  obtain ⟨y5, e5⟩ := hy 5 (by decide)
  obtain ⟨y6, e6⟩ := hy 6 (by decide)
  obtain ⟨y7, e7⟩ := hy 7 (by decide)
  obtain ⟨y8, e8⟩ := hy 8 (by decide)
  obtain ⟨n0, q0, w0⟩ := int_of_trod (off := 0) Try.underlying27 c27 ((hff 0 _ rfl).trans e0)
  obtain ⟨n1, q1, w1⟩ := nat_of_trod (off := 1) Try.underlying22 c22 ((hff 1 _ rfl).trans e1)
  obtain ⟨n2, q2, w2⟩ := nat_of_trod (off := 2) Try.underlying22 c22 ((hff 2 _ rfl).trans e2)
  obtain ⟨n3, q3, w3⟩ := nat_of_trod (off := 3) Try.underlying22 c22 ((hff 3 _ rfl).trans e3)
  obtain ⟨n4, q4, w4⟩ := nat_of_trod (off := 4) Try.underlying22 c22 ((hff 4 _ rfl).trans e4)
  obtain ⟨n5, q5, w5⟩ := nat_of_trod (off := 5) Try.underlying22 c22 ((hff 5 _ rfl).trans e5)
  obtain ⟨b6, q6⟩ := bool_of_trod (off := 6) Try.underlying4 c4 ((hff 6 _ rfl).trans e6)
  obtain ⟨a7, l7, k7, q7, t7⟩ := slice_of_trod (off := 7) Try.underlying28 c28 ((hff 7 _ rfl).trans e7)
  obtain ⟨a8, l8, k8, q8, t8⟩ := slice_of_trod (off := 8) Try.underlying29 c29 ((hff 8 _ rfl).trans e8)
  obtain ⟨es, hes, hel⟩ := ents_of_trod (fun b off h => hz b off (hin 7 _ e7 _ h)) (hfit 7 _ 28 e7 rfl) t7
  obtain ⟨t, htl, ht⟩ := RdB_of_trod Try.underlying29 Try.underlying5 (by kernel_rfl) t8
  have hda : DatA w (fun b => b < w.heap.size) (.slice a8 l8 k8) t := DatA.of_rd ht fun b off c e i hi => by
    cases e
    exact hz _ _ (hin 8 _ e8 _ (bytes_places Try.underlying29 (by kernel_rfl) t8 _ _ rfl i (by omega)))
  have hdl : t.length ≤ 140737488351232 := by rw [htl]; exact bytes_fit Try.underlying29 (by kernel_rfl) (hfit 8 _ 29 e8 rfl) t8
  obtain ⟨m0, rfl⟩ : ∃ m0 : Nat, n0 = (m0 : Int) := ⟨n0.toNat, by have := (wf_u8 w0).1; omega⟩
  refine ⟨(⟨m0, n1, n2, n3, n4, n5, b6, es, t⟩, .slice a7 l7 k7, .slice a8 l8 k8), ?_, ⟨hes, hda, ?_, w1, w2, w3, w4, w5⟩, hel, hdl⟩
  · unfold ntv
    congr 1
    apply Array.ext'
    show l = [_, _, _, _, _, _, _, _, _]
    apply List.ext_getElem?
    intro i
    by_cases hi : i < 9
    · have h : i = 0 ∨ i = 1 ∨ i = 2 ∨ i = 3 ∨ i = 4 ∨ i = 5 ∨ i = 6 ∨ i = 7 ∨ i = 8 := by omega
      rcases h with rfl | rfl | rfl | rfl | rfl | rfl | rfl | rfl | rfl
      · exact q0
      · exact q1
      · exact q2
      · exact q3
      · exact q4
      · exact q5
      · exact q6
      · exact q7
      · exact q8
    · rw [List.getElem?_eq_none (by omega), List.getElem?_eq_none (by simp; omega)]
  · show m0 < 256
    have := (wf_u8 w0).2
    omega
end
end Go.Proofs.Yteellfgiejnigaa
/- Walks of notes' fields, May$1, slices.IndexFunc and ContainsFunc. -/
namespace Go.Proofs.Yteellfgiejnigaa
open Go.ChangeShapes Go.WideShapes Go.ChangeAt Go.RowKit
set_option linter.unusedVariables false
/-- Which fields a kind has. -/
def hasR (k : Nat) : Bool := decide (k = 1 ∨ k = 2)
def hasI (k : Nat) : Bool := decide (k = 1 ∨ k = 3 ∨ k = 5 ∨ k = 6 ∨ k = 7)
def hasA (k : Nat) : Bool := decide (k = 1 ∨ k = 3 ∨ k = 5 ∨ k = 7)
def hasC (k : Nat) : Bool := decide (k = 5)
def hasY (k : Nat) : Bool := decide (k = 2 ∨ k = 4 ∨ k = 6)
def hasL (k : Nat) : Bool := decide (k = 5)
def hasD (k : Nat) : Bool := decide (k = 7)
theorem hz112 : ((Try.prog.info? 112).bind (·.zero)).map Value.cells = some #[.bool false, .bool false, .bool false, .bool false, .bool false, .bool false, .bool false] := by kernel_rfl
set_option maxRecDepth 100000 in
theorem fields1_w (w : World) : Calls Try.prog 68 #[.int .u8 1] w fun r w' => r = .returned (.agg #[.bool true, .bool true, .bool true, .bool false, .bool false, .bool false, .bool false]) ∧ Below w.heap.size w w' := by
  go_enter Try.func68, Try.ntmps68
  go_wp2_with (first
    | (refine wpList_load_row rfl 112 (.tmp 2) rfl _ rfl _ _ _ _ (heap_alloc_new w _) Try.underlying112 rfl (show _ = some 7 by kernel_rfl) ?_)
    | (refine wpList_store_rowTo rfl 112 (.tmp 2) (.tmp 32) rfl rfl _ #[.bool true, .bool true, .bool true, .bool false, .bool false, .bool false, .bool false] rfl rfl 112 #[.bool true, .bool true, .bool true, .bool false, .bool false, .bool false, .bool false] (heap_alloc_new w _) (show _ = some 7 by kernel_rfl) rfl (by simp [Value.oneCell']) ?_))
  refine bodyPost_ret (v := .agg #[.bool true, .bool true, .bool true, .bool false, .bool false, .bool false, .bool false]) (results_cell_row rfl _ _ w.heap.size 112 _ _ _ rfl (setRow_heap _ _ _ _ _ _ (heap_alloc_new w _)) Try.underlying112 rfl (show _ = some 7 by kernel_rfl)) rfl ?_
  exact ⟨rfl, ((Below.refl w.heap.size w).alloc (Nat.le_refl _) _).trans (Below_setRow (Below.refl _ _) (by simp) _)⟩
set_option maxRecDepth 100000 in
theorem fields2_w (w : World) : Calls Try.prog 68 #[.int .u8 2] w fun r w' => r = .returned (.agg #[.bool true, .bool false, .bool false, .bool false, .bool true, .bool false, .bool false]) ∧ Below w.heap.size w w' := by
  go_enter Try.func68, Try.ntmps68
  go_wp2_with (first
    | (refine wpList_load_row rfl 112 (.tmp 2) rfl _ rfl _ _ _ _ (heap_alloc_new w _) Try.underlying112 rfl (show _ = some 7 by kernel_rfl) ?_)
    | (refine wpList_store_rowTo rfl 112 (.tmp 2) (.tmp 32) rfl rfl _ #[.bool true, .bool false, .bool false, .bool false, .bool true, .bool false, .bool false] rfl rfl 112 #[.bool true, .bool false, .bool false, .bool false, .bool true, .bool false, .bool false] (heap_alloc_new w _) (show _ = some 7 by kernel_rfl) rfl (by simp [Value.oneCell']) ?_))
  refine bodyPost_ret (v := .agg #[.bool true, .bool false, .bool false, .bool false, .bool true, .bool false, .bool false]) (results_cell_row rfl _ _ w.heap.size 112 _ _ _ rfl (setRow_heap _ _ _ _ _ _ (heap_alloc_new w _)) Try.underlying112 rfl (show _ = some 7 by kernel_rfl)) rfl ?_
  exact ⟨rfl, ((Below.refl w.heap.size w).alloc (Nat.le_refl _) _).trans (Below_setRow (Below.refl _ _) (by simp) _)⟩
set_option maxRecDepth 100000 in
theorem fields3_w (w : World) : Calls Try.prog 68 #[.int .u8 3] w fun r w' => r = .returned (.agg #[.bool false, .bool true, .bool true, .bool false, .bool false, .bool false, .bool false]) ∧ Below w.heap.size w w' := by
  go_enter Try.func68, Try.ntmps68
  go_wp2_with (first
    | (refine wpList_load_row rfl 112 (.tmp 2) rfl _ rfl _ _ _ _ (heap_alloc_new w _) Try.underlying112 rfl (show _ = some 7 by kernel_rfl) ?_)
    | (refine wpList_store_rowTo rfl 112 (.tmp 2) (.tmp 32) rfl rfl _ #[.bool false, .bool true, .bool true, .bool false, .bool false, .bool false, .bool false] rfl rfl 112 #[.bool false, .bool true, .bool true, .bool false, .bool false, .bool false, .bool false] (heap_alloc_new w _) (show _ = some 7 by kernel_rfl) rfl (by simp [Value.oneCell']) ?_))
  refine bodyPost_ret (v := .agg #[.bool false, .bool true, .bool true, .bool false, .bool false, .bool false, .bool false]) (results_cell_row rfl _ _ w.heap.size 112 _ _ _ rfl (setRow_heap _ _ _ _ _ _ (heap_alloc_new w _)) Try.underlying112 rfl (show _ = some 7 by kernel_rfl)) rfl ?_
  exact ⟨rfl, ((Below.refl w.heap.size w).alloc (Nat.le_refl _) _).trans (Below_setRow (Below.refl _ _) (by simp) _)⟩
set_option maxRecDepth 100000 in
theorem fields4_w (w : World) : Calls Try.prog 68 #[.int .u8 4] w fun r w' => r = .returned (.agg #[.bool false, .bool false, .bool false, .bool false, .bool true, .bool false, .bool false]) ∧ Below w.heap.size w w' := by
  go_enter Try.func68, Try.ntmps68
  go_wp2_with (first
    | (refine wpList_load_row rfl 112 (.tmp 2) rfl _ rfl _ _ _ _ (heap_alloc_new w _) Try.underlying112 rfl (show _ = some 7 by kernel_rfl) ?_)
    | (refine wpList_store_rowTo rfl 112 (.tmp 2) (.tmp 32) rfl rfl _ #[.bool false, .bool false, .bool false, .bool false, .bool true, .bool false, .bool false] rfl rfl 112 #[.bool false, .bool false, .bool false, .bool false, .bool true, .bool false, .bool false] (heap_alloc_new w _) (show _ = some 7 by kernel_rfl) rfl (by simp [Value.oneCell']) ?_))
  refine bodyPost_ret (v := .agg #[.bool false, .bool false, .bool false, .bool false, .bool true, .bool false, .bool false]) (results_cell_row rfl _ _ w.heap.size 112 _ _ _ rfl (setRow_heap _ _ _ _ _ _ (heap_alloc_new w _)) Try.underlying112 rfl (show _ = some 7 by kernel_rfl)) rfl ?_
  exact ⟨rfl, ((Below.refl w.heap.size w).alloc (Nat.le_refl _) _).trans (Below_setRow (Below.refl _ _) (by simp) _)⟩
set_option maxRecDepth 100000 in
theorem fields5_w (w : World) : Calls Try.prog 68 #[.int .u8 5] w fun r w' => r = .returned (.agg #[.bool false, .bool true, .bool true, .bool true, .bool false, .bool true, .bool false]) ∧ Below w.heap.size w w' := by
  go_enter Try.func68, Try.ntmps68
  go_wp2_with (first
    | (refine wpList_load_row rfl 112 (.tmp 2) rfl _ rfl _ _ _ _ (heap_alloc_new w _) Try.underlying112 rfl (show _ = some 7 by kernel_rfl) ?_)
    | (refine wpList_store_rowTo rfl 112 (.tmp 2) (.tmp 32) rfl rfl _ #[.bool false, .bool true, .bool true, .bool true, .bool false, .bool true, .bool false] rfl rfl 112 #[.bool false, .bool true, .bool true, .bool true, .bool false, .bool true, .bool false] (heap_alloc_new w _) (show _ = some 7 by kernel_rfl) rfl (by simp [Value.oneCell']) ?_))
  refine bodyPost_ret (v := .agg #[.bool false, .bool true, .bool true, .bool true, .bool false, .bool true, .bool false]) (results_cell_row rfl _ _ w.heap.size 112 _ _ _ rfl (setRow_heap _ _ _ _ _ _ (heap_alloc_new w _)) Try.underlying112 rfl (show _ = some 7 by kernel_rfl)) rfl ?_
  exact ⟨rfl, ((Below.refl w.heap.size w).alloc (Nat.le_refl _) _).trans (Below_setRow (Below.refl _ _) (by simp) _)⟩
set_option maxRecDepth 100000 in
theorem fields6_w (w : World) : Calls Try.prog 68 #[.int .u8 6] w fun r w' => r = .returned (.agg #[.bool false, .bool true, .bool false, .bool false, .bool true, .bool false, .bool false]) ∧ Below w.heap.size w w' := by
  go_enter Try.func68, Try.ntmps68
  go_wp2_with (first
    | (refine wpList_load_row rfl 112 (.tmp 2) rfl _ rfl _ _ _ _ (heap_alloc_new w _) Try.underlying112 rfl (show _ = some 7 by kernel_rfl) ?_)
    | (refine wpList_store_rowTo rfl 112 (.tmp 2) (.tmp 32) rfl rfl _ #[.bool false, .bool true, .bool false, .bool false, .bool true, .bool false, .bool false] rfl rfl 112 #[.bool false, .bool true, .bool false, .bool false, .bool true, .bool false, .bool false] (heap_alloc_new w _) (show _ = some 7 by kernel_rfl) rfl (by simp [Value.oneCell']) ?_))
  refine bodyPost_ret (v := .agg #[.bool false, .bool true, .bool false, .bool false, .bool true, .bool false, .bool false]) (results_cell_row rfl _ _ w.heap.size 112 _ _ _ rfl (setRow_heap _ _ _ _ _ _ (heap_alloc_new w _)) Try.underlying112 rfl (show _ = some 7 by kernel_rfl)) rfl ?_
  exact ⟨rfl, ((Below.refl w.heap.size w).alloc (Nat.le_refl _) _).trans (Below_setRow (Below.refl _ _) (by simp) _)⟩
set_option maxRecDepth 100000 in
theorem fields7_w (w : World) : Calls Try.prog 68 #[.int .u8 7] w fun r w' => r = .returned (.agg #[.bool false, .bool true, .bool true, .bool false, .bool false, .bool false, .bool true]) ∧ Below w.heap.size w w' := by
  go_enter Try.func68, Try.ntmps68
  go_wp2_with (first
    | (refine wpList_load_row rfl 112 (.tmp 2) rfl _ rfl _ _ _ _ (heap_alloc_new w _) Try.underlying112 rfl (show _ = some 7 by kernel_rfl) ?_)
    | (refine wpList_store_rowTo rfl 112 (.tmp 2) (.tmp 32) rfl rfl _ #[.bool false, .bool true, .bool true, .bool false, .bool false, .bool false, .bool true] rfl rfl 112 #[.bool false, .bool true, .bool true, .bool false, .bool false, .bool false, .bool true] (heap_alloc_new w _) (show _ = some 7 by kernel_rfl) rfl (by simp [Value.oneCell']) ?_))
  refine bodyPost_ret (v := .agg #[.bool false, .bool true, .bool true, .bool false, .bool false, .bool false, .bool true]) (results_cell_row rfl _ _ w.heap.size 112 _ _ _ rfl (setRow_heap _ _ _ _ _ _ (heap_alloc_new w _)) Try.underlying112 rfl (show _ = some 7 by kernel_rfl)) rfl ?_
  exact ⟨rfl, ((Below.refl w.heap.size w).alloc (Nat.le_refl _) _).trans (Below_setRow (Below.refl _ _) (by simp) _)⟩
set_option maxRecDepth 100000 in
theorem fields0_w (k : Nat) (hk : k = 0 ∨ 7 < k) (w : World) : Calls Try.prog 68 #[.int .u8 (k : Int)] w fun r w' => r = .returned (.agg #[.bool false, .bool false, .bool false, .bool false, .bool false, .bool false, .bool false]) ∧ Below w.heap.size w w' := by
  have e1 : ((k : Int) == 1) = false := by simp; omega
  have f1 : decide ((k : Int) = 1) = false := by simp; omega
  have e2 : ((k : Int) == 2) = false := by simp; omega
  have f2 : decide ((k : Int) = 2) = false := by simp; omega
  have e3 : ((k : Int) == 3) = false := by simp; omega
  have f3 : decide ((k : Int) = 3) = false := by simp; omega
  have e4 : ((k : Int) == 4) = false := by simp; omega
  have f4 : decide ((k : Int) = 4) = false := by simp; omega
  have e5 : ((k : Int) == 5) = false := by simp; omega
  have f5 : decide ((k : Int) = 5) = false := by simp; omega
  have e6 : ((k : Int) == 6) = false := by simp; omega
  have f6 : decide ((k : Int) = 6) = false := by simp; omega
  have e7 : ((k : Int) == 7) = false := by simp; omega
  have f7 : decide ((k : Int) = 7) = false := by simp; omega
  clear hk
  go_enter Try.func68, Try.ntmps68
  go_wp2_with (first
    | (refine wpList_load_row rfl 112 (.tmp 2) rfl _ rfl _ _ _ _ (heap_alloc_new w _) Try.underlying112 rfl (show _ = some 7 by kernel_rfl) ?_)
    | (refine wpList_store_rowTo rfl 112 (.tmp 2) (.tmp 32) rfl rfl _ #[.bool false, .bool false, .bool false, .bool false, .bool false, .bool false, .bool false] rfl rfl 112 #[.bool false, .bool false, .bool false, .bool false, .bool false, .bool false, .bool false] (heap_alloc_new w _) (show _ = some 7 by kernel_rfl) rfl (by simp [Value.oneCell']) ?_))
  refine bodyPost_ret (v := .agg #[.bool false, .bool false, .bool false, .bool false, .bool false, .bool false, .bool false]) (results_cell_row rfl _ _ w.heap.size 112 _ _ _ rfl (setRow_heap _ _ _ _ _ _ (heap_alloc_new w _)) Try.underlying112 rfl (show _ = some 7 by kernel_rfl)) rfl ?_
  exact ⟨rfl, ((Below.refl w.heap.size w).alloc (Nat.le_refl _) _).trans (Below_setRow (Below.refl _ _) (by simp) _)⟩
theorem fields_w (k : Nat) (w : World) : Calls Try.prog 68 #[.int .u8 (k : Int)] w fun r w' => r = .returned (.agg #[.bool (hasR k), .bool (hasI k), .bool (hasA k), .bool (hasC k), .bool (hasY k), .bool (hasL k), .bool (hasD k)]) ∧ Below w.heap.size w w' := by
  by_cases h : k = 0 ∨ 7 < k
  · have e : #[Value.bool (hasR k), .bool (hasI k), .bool (hasA k), .bool (hasC k), .bool (hasY k), .bool (hasL k), .bool (hasD k)] = #[.bool false, .bool false, .bool false, .bool false, .bool false, .bool false, .bool false] := by
      have h1 : hasR k = false := by unfold hasR; simp; omega
      have h2 : hasI k = false := by unfold hasI; simp; omega
      have h3 : hasA k = false := by unfold hasA; simp; omega
      have h4 : hasC k = false := by unfold hasC; simp; omega
      have h5 : hasY k = false := by unfold hasY; simp; omega
      have h6 : hasL k = false := by unfold hasL; simp; omega
      have h7 : hasD k = false := by unfold hasD; simp; omega
      rw [h1, h2, h3, h4, h5, h6, h7]
    rw [e]
    exact fields0_w k h w
  · have h7 : k = 1 ∨ k = 2 ∨ k = 3 ∨ k = 4 ∨ k = 5 ∨ k = 6 ∨ k = 7 := by omega
    rcases h7 with rfl | rfl | rfl | rfl | rfl | rfl | rfl
    · exact fields1_w w
    · exact fields2_w w
    · exact fields3_w w
    · exact fields4_w w
    · exact fields5_w w
    · exact fields6_w w
    · exact fields7_w w

set_option maxRecDepth 100000 in
theorem may1_w (t : Nat) (d : Value) (l : List UInt8) (w : World) (hd : RdB w d l) :
    Calls Try.prog 93 #[.agg #[.int .u64 (t : Int), d]] w fun r w' => r = .returned (.bool (decide (3000 < l.length))) ∧ Below w.heap.size w w' := by
  obtain ⟨p, c, rfl, _⟩ := hd
  have e : decide ((3000 : Int) < (l.length : Int)) = decide (3000 < l.length) := decide_eq_decide.2 (by omega)
  have HB := Lib.hid ((Below.refl w.heap.size w).alloc (Nat.le_refl _) (.cells #[.int .u64 (t : Int), .slice p l.length c] 53))
  go_enter Try.func93, Try.ntmps93
  go_wp2
  go_ret
  refine ⟨?_, HB.out⟩
  first | rfl | (simp [e])
def anyLong (es : List Ent) : Bool := es.any fun e => decide (3000 < e.2.length)

set_option maxRecDepth 100000 in
set_option maxHeartbeats 3200000 in
theorem indexFunc_w (R1 : Foot) (va : Value) (es : List Ent) (w : World) (ha : EsR w R1 va es) (hn : es.length ≤ 1000000) :
    Calls Try.prog 128 #[va, .func (.func 93) #[] #[]] w fun r w' => (∃ z : Int, r = .returned (.int .i64 z) ∧ (decide (0 ≤ z)) = anyLong es) ∧ Below w.heap.size w w' := by
  obtain ⟨pa, ca, rfl⟩ := ha.len_form
  have Ha := Lib.hid ha
  clear ha
  go_enter Try.func128, Try.ntmps128
  go_wp2
  go_loopw [8] (fun i wr => ∃ k : Nat, k ≤ es.length ∧ i = .int .i64 (k : Int) ∧ Hid (anyLong (es.take k) = false) ∧ Hid (Below w.heap.size w wr)) (fun i _ => es.length - (intOf i).toNat)
  case atStart => exact ⟨0, Nat.zero_le _, rfl, Lib.hid rfl, Lib.hid (Below.refl _ _)⟩
  case round =>
    obtain ⟨k, hk, rfl, HT, HB⟩ := hrel
    by_cases hlt : k < es.length
    · obtain ⟨b1, o1, c1, d1, hv1, _, hb1, q1, q2, q3, _⟩ := Ha.out.elemF k hlt
      cases hv1
      have hra1 : w.rangeAt b1 (o1 + k * 2) [.int .u64 ((es[k].1 : Nat) : Int), d1] := fun j x hx => by
        match j, hx with
        | 0, hx => cases hx; exact q1
        | 1, hx => cases hx; exact q2
      have Hse := Lib.hid (show es.take (k + 1) = es.take k ++ [es[k]] by rw [List.take_succ_eq_append_getElem hlt])
      have Hyes := Lib.hid (fun (h : decide (3000 < es[k].2.length) = true) => (show anyLong es = true from by
        unfold anyLong
        rw [List.any_eq_true]
        exact ⟨es[k], List.getElem_mem _, h⟩))
      have Hno := Lib.hid (fun (h : decide (3000 < es[k].2.length) = false) => (show anyLong (es.take (k + 1)) = false from by
        rw [Hse.out]
        unfold anyLong
        rw [List.any_append]
        have := HT.out
        unfold anyLong at this
        rw [this]
        simp [h]))
      generalize es[k].1 = t1 at *
      generalize es[k].2 = l1 at *
      obtain ⟨dp1, dc1, rfl⟩ : ∃ p c, d1 = .slice p l1.length c := by obtain ⟨p, c, h1, _⟩ := q3.rd; exact ⟨p, c, h1⟩
      have Hra1 := Lib.hid (rangeAt_below hra1 hb1 HB.out)
      have HC := Lib.hid (may1_w t1 _ l1 wr (q3.rd.keeps HB.out.block))
      clear q1 q2 q3 hra1 hb1
      cases hs : decide (3000 < l1.length) with
      | false =>
        rw [hs] at HC
        have Hn2 := Lib.hid (Hno.out hs)
        clear hs
        go_wp2_with (first
          | (refine wpList_load_mid rfl 53 (.tmp 14) rfl _ _ rfl [.int .u64 (t1 : Int), .slice dp1 l1.length dc1] _ Hra1.out Try.underlying53 rfl (show _ = some 2 by kernel_rfl) ?_)
          | (go_at_call 93; refine (HC.out).mono ?_; rintro r w5 ⟨rfl, hB⟩; have HB5 := Lib.hid (HB.out.trans (hB.mono HB.out.size)); clear hB HC))
        go_roundw
        case rel => exact ⟨k + 1, by omega, by go_num, Hn2, HB5⟩
        case measure => simp [intOf]; omega
      | true =>
        rw [hs] at HC
        have Hy2 := Lib.hid (Hyes.out hs)
        clear hs
        go_wp2_with (first
          | (refine wpList_load_mid rfl 53 (.tmp 14) rfl _ _ rfl [.int .u64 (t1 : Int), .slice dp1 l1.length dc1] _ Hra1.out Try.underlying53 rfl (show _ = some 2 by kernel_rfl) ?_)
          | (go_at_call 93; refine (HC.out).mono ?_; rintro r w5 ⟨rfl, hB⟩; have HB5 := Lib.hid (HB.out.trans (hB.mono HB.out.size)); clear hB HC))
        go_ret
        exact ⟨⟨_, rfl, by rw [Hy2.out]; simp⟩, HB5.out⟩
    · have hk2 : k = es.length := by omega
      have h1 := HT.out
      rw [hk2, List.take_length] at h1
      have H1 := Lib.hid h1
      clear h1
      go_wp2
      go_ret
      exact ⟨⟨_, rfl, by rw [H1.out]; rfl⟩, HB.out⟩
set_option maxRecDepth 100000 in
theorem containsFunc_w (R1 : Foot) (va : Value) (es : List Ent) (w : World) (ha : EsR w R1 va es) (hn : es.length ≤ 1000000) :
    Calls Try.prog 92 #[va, .func (.func 93) #[] #[]] w fun r w' => r = .returned (.bool (anyLong es)) ∧ Below w.heap.size w w' := by
  have HC := Lib.hid (indexFunc_w R1 va es w ha hn)
  obtain ⟨pa, ca, rfl⟩ := ha.len_form
  clear ha
  go_enter Try.func92, Try.ntmps92
  go_wp2_with (go_at_call 128; refine (HC.out).mono ?_; rintro r w5 ⟨⟨z, rfl, hz⟩, hB⟩; have HB5 := Lib.hid hB; have Hz := Lib.hid hz; clear hB HC hz)
  go_ret
  exact ⟨by rw [← Hz.out]; first | rfl | simp, HB5.out⟩
end Go.Proofs.Yteellfgiejnigaa
/- The walk of notes.May (what is said; no kind). -/
namespace Go.Proofs.Yteellfgiejnigaa
open Go.ChangeShapes Go.WideShapes Go.ChangeAt Go.RowKit
set_option linter.unusedVariables false
/-- May this note be? -/
def mayN (x : Nt) : Bool := decide (1 ≤ x.kind ∧ x.kind ≤ 7 ∧ (hasR x.kind = false → x.round = 0) ∧ (hasI x.kind = false → x.index = 0) ∧ (hasA x.kind = false → x.at_ = 0) ∧ (hasC x.kind = false → x.commit = 0) ∧ x.index ≤ 4611686018427387904 ∧ x.commit ≤ 4611686018427387904 ∧
  (hasY x.kind = false → x.yes = false) ∧ (hasL x.kind = false → x.list.length = 0) ∧ (hasD x.kind = false → x.data.length = 0) ∧ x.list.length ≤ 16 ∧ x.data.length ≤ 524288 ∧ anyLong x.list = false)
theorem alloc_setRow (w : World) (cs ds : Array Value) (t : TypeId) : (w.alloc (.cells cs t)).setRow w.heap.size ds = w.alloc (.cells ds t) := by
  have hb : (w.alloc (.cells cs t)).heap[w.heap.size]? = some (.cells cs t) := heap_alloc_new w _
  unfold World.setRow
  simp only [World.alloc]
  congr 1
  apply Array.ext_getElem?
  intro i
  simp only [Array.getElem?_modify, Array.getElem?_push]
  split
  · rename_i h; subst h; simp
  · rename_i h
    split
    · rename_i h2; exact absurd h2.symm h
    · rfl
set_option maxRecDepth 100000 in
set_option maxHeartbeats 6400000 in
theorem may_k0_w (k1 t1 r1 i1 a1 c1 : Nat) (y1 : Bool) (L1 : List Ent) (D1 : List UInt8) (lv1 dv1 : Value) (S1 : Foot) (w : World) (h1 : EsR w S1 lv1 L1) (h2 : RdB w dv1 D1) (hn : L1.length ≤ 1000000) (hk : k1 = 0 ∨ 7 < k1) :
    Calls Try.prog 46 #[.agg #[.int .u8 (k1 : Int), .int .u64 (t1 : Int), .int .u64 (r1 : Int), .int .u64 (i1 : Int), .int .u64 (a1 : Int), .int .u64 (c1 : Int), .bool y1, lv1, dv1]] w fun e w' => e = .returned (.bool (mayN ⟨k1, t1, r1, i1, a1, c1, y1, L1, D1⟩)) ∧ Below w.heap.size w w' := by
  have HB0 := Lib.hid ((Below.refl w.heap.size w).alloc (Nat.le_refl _) (.cells #[.int .u8 (k1 : Int), .int .u64 (t1 : Int), .int .u64 (r1 : Int), .int .u64 (i1 : Int), .int .u64 (a1 : Int), .int .u64 (c1 : Int), .bool y1, lv1, dv1] 31))
  have HL1 := Lib.hid (h1.keeps HB0.out.block)
  obtain ⟨pl1, cl1, rfl⟩ := h1.len_form
  obtain ⟨pd1, cd1, rfl, _⟩ := h2
  have HF := Lib.hid (fields0_w k1 hk (w.alloc (.cells #[.int .u8 (k1 : Int), .int .u64 (t1 : Int), .int .u64 (r1 : Int), .int .u64 (i1 : Int), .int .u64 (a1 : Int), .int .u64 (c1 : Int), .bool y1, .slice pl1 L1.length cl1, .slice pd1 D1.length cd1] 31)))
  clear h1
  have hq : mayN ⟨k1, t1, r1, i1, a1, c1, y1, L1, D1⟩ = false := by unfold mayN; simp only [decide_eq_false_iff_not]; intro e; have h1 : 1 ≤ k1 := e.1; have h2 : k1 ≤ 7 := e.2.1; omega
  rw [hq]
  clear hq
  rcases hk with hk | hk
  · have e1 : decide ((k1 : Int) < 1) = true := by simp; omega
    have e3 : decide (k1 < 1) = true := by simp; omega
    have e5 : k1 < 1 := by omega
    have e6 : (k1 : Int) < 1 := by omega
    clear hn hk
    go_enter Try.func46, Try.ntmps46
    go_wp2_with (first
      | (go_at_call 68; go_loud (refine (HF.out).mono ?_; rintro e w2 ⟨rfl, hB⟩; have HB2 := Lib.hid (HB0.out.trans (hB.mono HB0.out.size)); have HL2 := Lib.hid (HL1.out.keeps hB.block); have hBz := hB.alloc hB.size (.cells #[.bool false, .bool false, .bool false, .bool false, .bool false, .bool false, .bool false] 112); have x0 := (hBz.cell (p := ⟨w.heap.size, 0, none⟩) (by simp)).trans (show _ = some (.int .u8 (k1 : Int)) by simp); have x2 := (hBz.cell (p := ⟨w.heap.size, 2, none⟩) (by simp)).trans (show _ = some (.int .u64 (r1 : Int)) by simp); have x3 := (hBz.cell (p := ⟨w.heap.size, 3, none⟩) (by simp)).trans (show _ = some (.int .u64 (i1 : Int)) by simp); have x4 := (hBz.cell (p := ⟨w.heap.size, 4, none⟩) (by simp)).trans (show _ = some (.int .u64 (a1 : Int)) by simp); have x5 := (hBz.cell (p := ⟨w.heap.size, 5, none⟩) (by simp)).trans (show _ = some (.int .u64 (c1 : Int)) by simp); have x6 := (hBz.cell (p := ⟨w.heap.size, 6, none⟩) (by simp)).trans (show _ = some (.bool y1) by simp); have x7 := (hBz.cell (p := ⟨w.heap.size, 7, none⟩) (by simp)).trans (show _ = some (.slice pl1 L1.length cl1) by simp); have x8 := (hBz.cell (p := ⟨w.heap.size, 8, none⟩) (by simp)).trans (show _ = some (.slice pd1 D1.length cd1) by simp); have HB2b := Lib.hid (HB2.out.alloc HB2.out.size (.cells #[.bool false, .bool false, .bool false, .bool false, .bool false, .bool false, .bool false] 112)); have HL2b := Lib.hid (HL2.out.keeps ((Keeps.refl w2).alloc (.cells #[.bool false, .bool false, .bool false, .bool false, .bool false, .bool false, .bool false] 112))); clear hB hBz HF))
      | (refine wpList_alloc_zero rfl 112 rfl _ hz112 ?_)
      | (refine wpList_store_rowTo rfl 112 (.tmp 3) (.tmp 6) rfl rfl _ #[.bool false, .bool false, .bool false, .bool false, .bool false, .bool false, .bool false] rfl rfl 112 #[.bool false, .bool false, .bool false, .bool false, .bool false, .bool false, .bool false] (heap_alloc_new w2 _) (show _ = some 7 by kernel_rfl) rfl (by simp [Value.oneCell']) ?_; rw [alloc_setRow]))
    go_ret
    exact ⟨rfl, HB2b.out⟩
  · have e1 : decide ((k1 : Int) < 1) = false := by simp; omega
    have e2 : decide ((7 : Int) < (k1 : Int)) = true := by simp; omega
    have e3 : decide (k1 < 1) = false := by simp; omega
    have e4 : decide (7 < k1) = true := by simp; omega
    have e5 : ¬ (k1 = 0) := by omega
    clear hn
    go_enter Try.func46, Try.ntmps46
    go_wp2_with (first
      | (go_at_call 68; go_loud (refine (HF.out).mono ?_; rintro e w2 ⟨rfl, hB⟩; have HB2 := Lib.hid (HB0.out.trans (hB.mono HB0.out.size)); have HL2 := Lib.hid (HL1.out.keeps hB.block); have hBz := hB.alloc hB.size (.cells #[.bool false, .bool false, .bool false, .bool false, .bool false, .bool false, .bool false] 112); have x0 := (hBz.cell (p := ⟨w.heap.size, 0, none⟩) (by simp)).trans (show _ = some (.int .u8 (k1 : Int)) by simp); have x2 := (hBz.cell (p := ⟨w.heap.size, 2, none⟩) (by simp)).trans (show _ = some (.int .u64 (r1 : Int)) by simp); have x3 := (hBz.cell (p := ⟨w.heap.size, 3, none⟩) (by simp)).trans (show _ = some (.int .u64 (i1 : Int)) by simp); have x4 := (hBz.cell (p := ⟨w.heap.size, 4, none⟩) (by simp)).trans (show _ = some (.int .u64 (a1 : Int)) by simp); have x5 := (hBz.cell (p := ⟨w.heap.size, 5, none⟩) (by simp)).trans (show _ = some (.int .u64 (c1 : Int)) by simp); have x6 := (hBz.cell (p := ⟨w.heap.size, 6, none⟩) (by simp)).trans (show _ = some (.bool y1) by simp); have x7 := (hBz.cell (p := ⟨w.heap.size, 7, none⟩) (by simp)).trans (show _ = some (.slice pl1 L1.length cl1) by simp); have x8 := (hBz.cell (p := ⟨w.heap.size, 8, none⟩) (by simp)).trans (show _ = some (.slice pd1 D1.length cd1) by simp); have HB2b := Lib.hid (HB2.out.alloc HB2.out.size (.cells #[.bool false, .bool false, .bool false, .bool false, .bool false, .bool false, .bool false] 112)); have HL2b := Lib.hid (HL2.out.keeps ((Keeps.refl w2).alloc (.cells #[.bool false, .bool false, .bool false, .bool false, .bool false, .bool false, .bool false] 112))); clear hB hBz HF))
      | (refine wpList_alloc_zero rfl 112 rfl _ hz112 ?_)
      | (refine wpList_store_rowTo rfl 112 (.tmp 3) (.tmp 6) rfl rfl _ #[.bool false, .bool false, .bool false, .bool false, .bool false, .bool false, .bool false] rfl rfl 112 #[.bool false, .bool false, .bool false, .bool false, .bool false, .bool false, .bool false] (heap_alloc_new w2 _) (show _ = some 7 by kernel_rfl) rfl (by simp [Value.oneCell']) ?_; rw [alloc_setRow]))
    go_ret
    exact ⟨rfl, HB2b.out⟩
end Go.Proofs.Yteellfgiejnigaa
