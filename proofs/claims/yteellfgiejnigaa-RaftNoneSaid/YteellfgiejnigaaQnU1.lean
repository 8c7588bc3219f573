/- U1: N1, N2, N3, N13, N4, N5. -/
import Derived.Test.YteellfgiejnigaaQnL3
import Derived.Test.YteellfgiejnigaaQnL4
import Derived.Test.YteellfgiejnigaaQnV1
namespace Go.Proofs.Yteellfgiejnigaa
open Go.ChangeShapes Go.WideShapes Go.ChangeAt Go.RowKit
set_option linter.unusedVariables false
end Go.Proofs.Yteellfgiejnigaa
/- The walk of the document's sameEntries (as its twin of the track's: T15). -/
namespace Go.Proofs.Yteellfgiejnigaa
open Go.ChangeShapes Go.WideShapes Go.ChangeAt Go.RowKit
set_option linter.unusedVariables false
set_option maxRecDepth 100000 in
set_option maxHeartbeats 3200000 in
theorem sameEntries_w (R1 R2 : Foot) (va vb : Value) (es fs : List Ent) (w : World) (ha : EsR w R1 va es) (hb : EsR w R2 vb fs) (hn : es.length ≤ 1000000) :
    Calls Try.prog 75 #[va, vb] w fun r w' => r = .returned (.bool (decide (es = fs))) ∧ Below w.heap.size w w' := by
  obtain ⟨pa, ca, rfl⟩ : ∃ p c, va = .slice p es.length c := by obtain ⟨p, c, xs, e, _⟩ := ha; exact ⟨p, c, e⟩
  obtain ⟨pb, cb, rfl⟩ : ∃ p c, vb = .slice p fs.length c := by obtain ⟨p, c, xs, e, _⟩ := hb; exact ⟨p, c, e⟩
  have Ha := Lib.hid ha
  have Hb := Lib.hid hb
  clear ha hb
  by_cases hl : es.length = fs.length
  · have e1 : ((es.length : Int) == (fs.length : Int)) = true := by simp [hl]
    have e2 : (es.length == fs.length) = true := by simp [hl]
    have Hl := Lib.hid hl
    have e3 : decide (es.length = fs.length) = true := by simp [hl]
    have e0 : ((es.length : Int) != (fs.length : Int)) = false := by simp [hl]
    have e4 : (es.length != fs.length) = false := by simp [hl]
    clear hl
    go_enter Try.func75, Try.ntmps75
    go_wp2
    go_loopw [5] (fun i wr => ∃ k : Nat, k ≤ es.length ∧ i = .int .i64 (k : Int) ∧ Hid (es.take k = fs.take k) ∧ Hid (Below w.heap.size w wr)) (fun i _ => es.length - (intOf i).toNat)
    case atStart => exact ⟨0, Nat.zero_le _, rfl, Lib.hid rfl, Lib.hid (Below.refl _ _)⟩
    case round =>
      obtain ⟨k, hk, rfl, HT, HB⟩ := hrel
      by_cases hlt : k < es.length
      · have hlt2 : k < fs.length := by have := Hl.out; omega
        obtain ⟨b1, o1, c1, d1, hv1, q1, q2, q3⟩ := Ha.out.both k hlt
        obtain ⟨b2, o2, c2, d2, hv2, r1, r2, r3⟩ := Hb.out.both k hlt2
        cases hv1
        cases hv2
        have H1 := Lib.hid (And.intro q1 (And.intro q2 q3))
        have H2 := Lib.hid (And.intro r1 (And.intro r2 r3))
        have Hse := Lib.hid (show es.take (k + 1) = es.take k ++ [(es[k].1, es[k].2)] by rw [List.take_succ_eq_append_getElem hlt])
        have Hsf := Lib.hid (show fs.take (k + 1) = fs.take k ++ [(fs[k].1, fs[k].2)] by rw [List.take_succ_eq_append_getElem hlt2])
        have Hne := Lib.hid (fun (h : ¬ (es[k].1 = fs[k].1 ∧ es[k].2 = fs[k].2)) => (show decide (es = fs) = false by
          simp only [decide_eq_false_iff_not]; intro e; apply h; subst e; exact ⟨rfl, rfl⟩))
        have hnb : ¬ ((es.length : Int) ≤ (k : Int)) := by omega
        have hnb2 : ¬ (es.length ≤ k) := by omega
        have hnb3 : ¬ ((fs.length : Int) ≤ (k : Int)) := by omega
        have hnb4 : ¬ (fs.length ≤ k) := by omega
        generalize es[k].1 = t1 at *
        generalize es[k].2 = l1 at *
        generalize fs[k].1 = t2 at *
        generalize fs[k].2 = l2 at *
        obtain ⟨dp1, dc1, rfl⟩ : ∃ p c, d1 = .slice p l1.length c := by obtain ⟨p, c, h1, _⟩ := q3; exact ⟨p, c, h1⟩
        obtain ⟨dp2, dc2, rfl⟩ : ∃ p c, d2 = .slice p l2.length c := by obtain ⟨p, c, h1, _⟩ := r3; exact ⟨p, c, h1⟩
        obtain ⟨S1, E1⟩ : ∃ S, Hid ((⟨l1.toArray⟩ : ByteArray) = S) := ⟨_, Lib.hid rfl⟩
        obtain ⟨S2, E2⟩ : ∃ S, Hid ((⟨l2.toArray⟩ : ByteArray) = S) := ⟨_, Lib.hid rfl⟩
        have HK : Hid (Keeps w wr) := Lib.hid (fun b hb => HB.out.block b hb)
        have HW := Lib.hid (fun (W : World) (h : Keeps w W) => And.intro (And.intro (h.cell H1.out.1) (h.cell H1.out.2.1)) (And.intro (h.cell H2.out.1) (h.cell H2.out.2.1)))
        have HC := Lib.hid (fun (W : World) (h : Keeps w W) => And.intro (run_convert_str (P := Try.prog) (H1.out.2.2.keeps h) 29 5 9 Try.underlying29 Try.underlying5 Try.underlying9) (run_convert_str (P := Try.prog) (H2.out.2.2.keeps h) 29 5 9 Try.underlying29 Try.underlying5 Try.underlying9))
        clear q1 q2 q3 r1 r2 r3 hlt2
        by_cases ht : t1 = t2
        · subst ht
          by_cases hll : l1 = l2
          · subst hll
            go_wp2
            apply RegT.wp_region_T rfl 43 26 rfl (by kernel_rfl) RegT.Grow RegT.Grow.refl RegT.Grow.trans
            · iterate 2
                apply RegT.T_pure rfl rfl rfl
                · intro W hR; go_simp; rfl
                simp only [List.set_cons_succ, List.set_cons_zero, Nat.reduceAdd]
              apply RegT.T_pure (v := .pointer (some ⟨b1, o1 + k * 2, none⟩)) rfl rfl rfl
              · intro W hR; clear hR; go_simp
              simp only [List.set_cons_succ, List.set_cons_zero, Nat.reduceAdd]
              apply RegT.T_pure (v := .pointer (some ⟨b1, o1 + k * 2, none⟩)) rfl rfl rfl
              · intro W hR; clear hR; go_simp
              simp only [List.set_cons_succ, List.set_cons_zero, Nat.reduceAdd]
              apply RegT.T_pure (v := .int .u64 (t1 : Int)) rfl rfl rfl
              · intro W hR
                have hc := (HW.out W (HK.out.trans ((Keeps.refl wr).drew.trans hR.block))).1.1
                clear hR
                go_simp
              simp only [List.set_cons_succ, List.set_cons_zero, Nat.reduceAdd]
              iterate 2
                apply RegT.T_pure rfl rfl rfl
                · intro W hR; go_simp; rfl
                simp only [List.set_cons_succ, List.set_cons_zero, Nat.reduceAdd]
              apply RegT.T_pure (v := .pointer (some ⟨b2, o2 + k * 2, none⟩)) rfl rfl rfl
              · intro W hR; clear hR; go_simp
              simp only [List.set_cons_succ, List.set_cons_zero, Nat.reduceAdd]
              apply RegT.T_pure (v := .pointer (some ⟨b2, o2 + k * 2, none⟩)) rfl rfl rfl
              · intro W hR; clear hR; go_simp
              simp only [List.set_cons_succ, List.set_cons_zero, Nat.reduceAdd]
              apply RegT.T_pure (v := .int .u64 (t1 : Int)) rfl rfl rfl
              · intro W hR
                have hc := (HW.out W (HK.out.trans ((Keeps.refl wr).drew.trans hR.block))).2.1
                clear hR
                go_simp
              simp only [List.set_cons_succ, List.set_cons_zero, Nat.reduceAdd]
              apply RegT.T_pure (v := .bool false) rfl rfl rfl
              · intro W hR; clear hR; go_simp
              simp only [List.set_cons_succ, List.set_cons_zero, Nat.reduceAdd]
              iterate 1
                apply RegT.T_pure rfl rfl rfl
                · intro W hR; go_simp; rfl
                simp only [List.set_cons_succ, List.set_cons_zero, Nat.reduceAdd]
              iterate 2
                apply RegT.T_pure rfl rfl rfl
                · intro W hR; go_simp; rfl
                simp only [List.set_cons_succ, List.set_cons_zero, Nat.reduceAdd]
              apply RegT.T_pure (v := .pointer (some ⟨b1, o1 + k * 2, none⟩)) rfl rfl rfl
              · intro W hR; clear hR; go_simp
              simp only [List.set_cons_succ, List.set_cons_zero, Nat.reduceAdd]
              apply RegT.T_pure (v := .pointer (some ⟨b1, o1 + k * 2 + 1, none⟩)) rfl rfl rfl
              · intro W hR; clear hR; go_simp
              simp only [List.set_cons_succ, List.set_cons_zero, Nat.reduceAdd]
              apply RegT.T_pure (v := .slice dp1 l1.length dc1) rfl rfl rfl
              · intro W hR
                have hc := (HW.out W (HK.out.trans ((Keeps.refl wr).drew.trans hR.block))).1.2
                clear hR
                go_simp
              simp only [List.set_cons_succ, List.set_cons_zero, Nat.reduceAdd]
              apply RegT.T_pure (v := .string S1) rfl rfl rfl
              · intro W hR
                have hc := (HC.out W (HK.out.trans ((Keeps.refl wr).drew.trans hR.block))).1
                rw [E1.out] at hc
                clear hR
                go_simp
              simp only [List.set_cons_succ, List.set_cons_zero, Nat.reduceAdd]
              iterate 2
                apply RegT.T_pure rfl rfl rfl
                · intro W hR; go_simp; rfl
                simp only [List.set_cons_succ, List.set_cons_zero, Nat.reduceAdd]
              apply RegT.T_pure (v := .pointer (some ⟨b2, o2 + k * 2, none⟩)) rfl rfl rfl
              · intro W hR; clear hR; go_simp
              simp only [List.set_cons_succ, List.set_cons_zero, Nat.reduceAdd]
              apply RegT.T_pure (v := .pointer (some ⟨b2, o2 + k * 2 + 1, none⟩)) rfl rfl rfl
              · intro W hR; clear hR; go_simp
              simp only [List.set_cons_succ, List.set_cons_zero, Nat.reduceAdd]
              apply RegT.T_pure (v := .slice dp2 l1.length dc2) rfl rfl rfl
              · intro W hR
                have hc := (HW.out W (HK.out.trans ((Keeps.refl wr).drew.trans hR.block))).2.2
                clear hR
                go_simp
              simp only [List.set_cons_succ, List.set_cons_zero, Nat.reduceAdd]
              apply RegT.T_pure (v := .string S1) rfl rfl rfl
              · intro W hR
                have hc := (HC.out W (HK.out.trans ((Keeps.refl wr).drew.trans hR.block))).2
                rw [E1.out] at hc
                clear hR
                go_simp
              simp only [List.set_cons_succ, List.set_cons_zero, Nat.reduceAdd]
              apply RegT.T_pure (v := .bool false) rfl rfl rfl
              · intro W hR; clear hR; go_simp
              simp only [List.set_cons_succ, List.set_cons_zero, Nat.reduceAdd]
              apply RegT.T_pure (v := .bool false) rfl rfl rfl
              · intro W hR; clear hR; go_simp
              simp only [List.set_cons_succ, List.set_cons_zero, Nat.reduceAdd]
              refine RegT.T_tail (fun W hR hf => ?_)
              have HB2 := Lib.hid (HB.out.trans (((Below.refl _ wr).drew.trans hR).mono HB.out.size))
              clear hR hf
              simp only [List.drop_succ_cons, List.drop_zero]
              go_wp2
              go_roundw
              case rel => exact ⟨k + 1, by omega, by go_num, Lib.hid (by rw [Hse.out, Hsf.out, HT.out]), HB2⟩
              case measure => simp [intOf]; omega
            · rfl
            · kernel_rfl
          · have hs12 : (S1 == S2) = false := by rw [← E1.out, ← E2.out]; exact bytes_ne hll
            have hs0 : ¬ S1.toList = S2.toList := by rw [← E1.out, ← E2.out, ByteArray.toList_eq, ByteArray.toList_eq]; simpa using hll
            go_wp2
            apply RegT.wp_region_T rfl 43 26 rfl (by kernel_rfl) RegT.Grow RegT.Grow.refl RegT.Grow.trans
            · iterate 2
                apply RegT.T_pure rfl rfl rfl
                · intro W hR; go_simp; rfl
                simp only [List.set_cons_succ, List.set_cons_zero, Nat.reduceAdd]
              apply RegT.T_pure (v := .pointer (some ⟨b1, o1 + k * 2, none⟩)) rfl rfl rfl
              · intro W hR; clear hR; go_simp
              simp only [List.set_cons_succ, List.set_cons_zero, Nat.reduceAdd]
              apply RegT.T_pure (v := .pointer (some ⟨b1, o1 + k * 2, none⟩)) rfl rfl rfl
              · intro W hR; clear hR; go_simp
              simp only [List.set_cons_succ, List.set_cons_zero, Nat.reduceAdd]
              apply RegT.T_pure (v := .int .u64 (t1 : Int)) rfl rfl rfl
              · intro W hR
                have hc := (HW.out W (HK.out.trans ((Keeps.refl wr).drew.trans hR.block))).1.1
                clear hR
                go_simp
              simp only [List.set_cons_succ, List.set_cons_zero, Nat.reduceAdd]
              iterate 2
                apply RegT.T_pure rfl rfl rfl
                · intro W hR; go_simp; rfl
                simp only [List.set_cons_succ, List.set_cons_zero, Nat.reduceAdd]
              apply RegT.T_pure (v := .pointer (some ⟨b2, o2 + k * 2, none⟩)) rfl rfl rfl
              · intro W hR; clear hR; go_simp
              simp only [List.set_cons_succ, List.set_cons_zero, Nat.reduceAdd]
              apply RegT.T_pure (v := .pointer (some ⟨b2, o2 + k * 2, none⟩)) rfl rfl rfl
              · intro W hR; clear hR; go_simp
              simp only [List.set_cons_succ, List.set_cons_zero, Nat.reduceAdd]
              apply RegT.T_pure (v := .int .u64 (t1 : Int)) rfl rfl rfl
              · intro W hR
                have hc := (HW.out W (HK.out.trans ((Keeps.refl wr).drew.trans hR.block))).2.1
                clear hR
                go_simp
              simp only [List.set_cons_succ, List.set_cons_zero, Nat.reduceAdd]
              apply RegT.T_pure (v := .bool false) rfl rfl rfl
              · intro W hR; clear hR; go_simp
              simp only [List.set_cons_succ, List.set_cons_zero, Nat.reduceAdd]
              iterate 1
                apply RegT.T_pure rfl rfl rfl
                · intro W hR; go_simp; rfl
                simp only [List.set_cons_succ, List.set_cons_zero, Nat.reduceAdd]
              iterate 2
                apply RegT.T_pure rfl rfl rfl
                · intro W hR; go_simp; rfl
                simp only [List.set_cons_succ, List.set_cons_zero, Nat.reduceAdd]
              apply RegT.T_pure (v := .pointer (some ⟨b1, o1 + k * 2, none⟩)) rfl rfl rfl
              · intro W hR; clear hR; go_simp
              simp only [List.set_cons_succ, List.set_cons_zero, Nat.reduceAdd]
              apply RegT.T_pure (v := .pointer (some ⟨b1, o1 + k * 2 + 1, none⟩)) rfl rfl rfl
              · intro W hR; clear hR; go_simp
              simp only [List.set_cons_succ, List.set_cons_zero, Nat.reduceAdd]
              apply RegT.T_pure (v := .slice dp1 l1.length dc1) rfl rfl rfl
              · intro W hR
                have hc := (HW.out W (HK.out.trans ((Keeps.refl wr).drew.trans hR.block))).1.2
                clear hR
                go_simp
              simp only [List.set_cons_succ, List.set_cons_zero, Nat.reduceAdd]
              apply RegT.T_pure (v := .string S1) rfl rfl rfl
              · intro W hR
                have hc := (HC.out W (HK.out.trans ((Keeps.refl wr).drew.trans hR.block))).1
                rw [E1.out] at hc
                clear hR
                go_simp
              simp only [List.set_cons_succ, List.set_cons_zero, Nat.reduceAdd]
              iterate 2
                apply RegT.T_pure rfl rfl rfl
                · intro W hR; go_simp; rfl
                simp only [List.set_cons_succ, List.set_cons_zero, Nat.reduceAdd]
              apply RegT.T_pure (v := .pointer (some ⟨b2, o2 + k * 2, none⟩)) rfl rfl rfl
              · intro W hR; clear hR; go_simp
              simp only [List.set_cons_succ, List.set_cons_zero, Nat.reduceAdd]
              apply RegT.T_pure (v := .pointer (some ⟨b2, o2 + k * 2 + 1, none⟩)) rfl rfl rfl
              · intro W hR; clear hR; go_simp
              simp only [List.set_cons_succ, List.set_cons_zero, Nat.reduceAdd]
              apply RegT.T_pure (v := .slice dp2 l2.length dc2) rfl rfl rfl
              · intro W hR
                have hc := (HW.out W (HK.out.trans ((Keeps.refl wr).drew.trans hR.block))).2.2
                clear hR
                go_simp
              simp only [List.set_cons_succ, List.set_cons_zero, Nat.reduceAdd]
              apply RegT.T_pure (v := .string S2) rfl rfl rfl
              · intro W hR
                have hc := (HC.out W (HK.out.trans ((Keeps.refl wr).drew.trans hR.block))).2
                rw [E2.out] at hc
                clear hR
                go_simp
              simp only [List.set_cons_succ, List.set_cons_zero, Nat.reduceAdd]
              apply RegT.T_pure (v := .bool true) rfl rfl rfl
              · intro W hR; clear hR; go_simp
              simp only [List.set_cons_succ, List.set_cons_zero, Nat.reduceAdd]
              apply RegT.T_pure (v := .bool true) rfl rfl rfl
              · intro W hR; clear hR; go_simp
              simp only [List.set_cons_succ, List.set_cons_zero, Nat.reduceAdd]
              refine RegT.T_tail (fun W hR hf => ?_)
              have HB2 := Lib.hid (HB.out.trans (((Below.refl _ wr).drew.trans hR).mono HB.out.size))
              clear hR hf
              simp only [List.drop_succ_cons, List.drop_zero]
              go_wp2
              go_ret
              exact ⟨by rw [Hne.out (fun e => hll e.2)]; rfl, HB2.out⟩
            · rfl
            · kernel_rfl
        · have ht1 : (t1 == t2) = false := by simp [ht]
          have ht0 : ¬ ((t1 : Int) = (t2 : Int)) := by omega
          have ht2 : decide (t1 = t2) = false := by simp [ht]
          go_wp2
          apply RegT.wp_region_T rfl 43 26 rfl (by kernel_rfl) RegT.Grow RegT.Grow.refl RegT.Grow.trans
          · iterate 2
              apply RegT.T_pure rfl rfl rfl
              · intro W hR; go_simp; rfl
              simp only [List.set_cons_succ, List.set_cons_zero, Nat.reduceAdd]
            apply RegT.T_pure (v := .pointer (some ⟨b1, o1 + k * 2, none⟩)) rfl rfl rfl
            · intro W hR; clear hR; go_simp
            simp only [List.set_cons_succ, List.set_cons_zero, Nat.reduceAdd]
            apply RegT.T_pure (v := .pointer (some ⟨b1, o1 + k * 2, none⟩)) rfl rfl rfl
            · intro W hR; clear hR; go_simp
            simp only [List.set_cons_succ, List.set_cons_zero, Nat.reduceAdd]
            apply RegT.T_pure (v := .int .u64 (t1 : Int)) rfl rfl rfl
            · intro W hR
              have hc := (HW.out W (HK.out.trans ((Keeps.refl wr).drew.trans hR.block))).1.1
              clear hR
              go_simp
            simp only [List.set_cons_succ, List.set_cons_zero, Nat.reduceAdd]
            iterate 2
              apply RegT.T_pure rfl rfl rfl
              · intro W hR; go_simp; rfl
              simp only [List.set_cons_succ, List.set_cons_zero, Nat.reduceAdd]
            apply RegT.T_pure (v := .pointer (some ⟨b2, o2 + k * 2, none⟩)) rfl rfl rfl
            · intro W hR; clear hR; go_simp
            simp only [List.set_cons_succ, List.set_cons_zero, Nat.reduceAdd]
            apply RegT.T_pure (v := .pointer (some ⟨b2, o2 + k * 2, none⟩)) rfl rfl rfl
            · intro W hR; clear hR; go_simp
            simp only [List.set_cons_succ, List.set_cons_zero, Nat.reduceAdd]
            apply RegT.T_pure (v := .int .u64 (t2 : Int)) rfl rfl rfl
            · intro W hR
              have hc := (HW.out W (HK.out.trans ((Keeps.refl wr).drew.trans hR.block))).2.1
              clear hR
              go_simp
            simp only [List.set_cons_succ, List.set_cons_zero, Nat.reduceAdd]
            apply RegT.T_pure (v := .bool true) rfl rfl rfl
            · intro W hR; clear hR; go_simp
            simp only [List.set_cons_succ, List.set_cons_zero, Nat.reduceAdd]
            iterate 1
              apply RegT.T_pure rfl rfl rfl
              · intro W hR; go_simp; rfl
              simp only [List.set_cons_succ, List.set_cons_zero, Nat.reduceAdd]
            iterate 13
              apply RegT.T_skip rfl rfl rfl
              simp only [List.set_cons_succ, List.set_cons_zero, Nat.reduceAdd]
            apply RegT.T_pure (v := .bool true) rfl rfl rfl
            · intro W hR; clear hR; go_simp
            simp only [List.set_cons_succ, List.set_cons_zero, Nat.reduceAdd]
            refine RegT.T_tail (fun W hR hf => ?_)
            have HB2 := Lib.hid (HB.out.trans (((Below.refl _ wr).drew.trans hR).mono HB.out.size))
            clear hR hf
            simp only [List.drop_succ_cons, List.drop_zero]
            go_wp2
            go_ret
            exact ⟨by rw [Hne.out (fun e => ht e.1)]; rfl, HB2.out⟩
          · rfl
          · kernel_rfl
      · have hk2 : k = es.length := by omega
        have Hfin := Lib.hid (show decide (es = fs) = true by
          have h1 := HT.out
          rw [hk2, List.take_length, Hl.out, List.take_length] at h1
          simp [h1])
        go_wp2
        go_ret
        exact ⟨by rw [Hfin.out]; rfl, HB.out⟩
  · have e1 : ((es.length : Int) == (fs.length : Int)) = false := by simp; omega
    have e2 : (es.length == fs.length) = false := by simp [hl]
    have e3 : decide (es.length = fs.length) = false := by simp [hl]
    have Hf := Lib.hid (show decide (es = fs) = false by simp only [decide_eq_false_iff_not]; intro e; exact hl (by rw [e]))
    clear hl
    go_enter Try.func75, Try.ntmps75
    go_wp2
    go_ret
    exact ⟨by rw [Hf.out]; rfl, Below.refl _ _⟩
end Go.Proofs.Yteellfgiejnigaa
/- A note, and the walks of notes.Same and of the document's. -/
namespace Go.Proofs.Yteellfgiejnigaa
open Go.ChangeShapes Go.WideShapes Go.ChangeAt Go.RowKit
set_option linter.unusedVariables false
/-- A note. -/
structure Nt where
  kind : Nat
  term : Nat
  round : Nat
  index : Nat
  at_ : Nat
  commit : Nat
  yes : Bool
  list : List Ent
  data : List UInt8
def sameN (x z : Nt) : Bool := decide (x.kind = z.kind ∧ x.term = z.term ∧ x.round = z.round ∧ x.index = z.index ∧ x.at_ = z.at_ ∧ x.commit = z.commit ∧ x.yes = z.yes ∧ x.list = z.list ∧ x.data = z.data)
/-- The note's value. -/
def ntv (x : Nt) (lv dv : Value) : Value := .agg #[.int .u8 (x.kind : Int), .int .u64 (x.term : Int), .int .u64 (x.round : Int), .int .u64 (x.index : Int), .int .u64 (x.at_ : Int), .int .u64 (x.commit : Int), .bool x.yes, lv, dv]
/-- It lies there. -/
structure NtA (w : World) (S : Foot) (lv dv : Value) (x : Nt) : Prop where
  l : EsR w S lv x.list
  d : DatA w S dv x.data
  kind : x.kind < 256
  term : x.term < 2 ^ 64
  round : x.round < 2 ^ 64
  index : x.index < 2 ^ 64
  at_ : x.at_ < 2 ^ 64
  commit : x.commit < 2 ^ 64
theorem NtA.keeps {w w' : World} {S : Foot} {lv dv : Value} {x : Nt} (h : NtA w S lv dv x) (hk : Keeps w w') : NtA w' S lv dv x := ⟨h.l.keeps hk, h.d.keeps hk, h.kind, h.term, h.round, h.index, h.at_, h.commit⟩
theorem NtA.frame {w w' : World} {S : Foot} {lv dv : Value} {x : Nt} (h : NtA w S lv dv x) (hs : SameOn S w w') : NtA w' S lv dv x := ⟨h.l.frame hs, h.d.frame hs, h.kind, h.term, h.round, h.index, h.at_, h.commit⟩
theorem NtA.mono {w : World} {S S' : Foot} {lv dv : Value} {x : Nt} (h : NtA w S lv dv x) (hs : ∀ b, b < w.heap.size → S b → S' b) : NtA w S' lv dv x := ⟨h.l.mono hs, h.d.mono hs, h.kind, h.term, h.round, h.index, h.at_, h.commit⟩
theorem NtA.forms {w : World} {S : Foot} {lv dv : Value} {x : Nt} (h : NtA w S lv dv x) : (∃ p c, lv = .slice p x.list.length c) ∧ ∃ p c, dv = .slice p x.data.length c := ⟨h.l.len_form, by obtain ⟨p, c, e, _⟩ := h.d.rd; exact ⟨p, c, e⟩⟩
set_option maxRecDepth 100000 in
set_option maxHeartbeats 6400000 in
theorem rnoteSame_w (x z : Nt) (lv1 dv1 lv2 dv2 : Value) (S1 S2 : Foot) (w : World) (h1 : NtA w S1 lv1 dv1 x) (h2 : NtA w S2 lv2 dv2 z) (hn : x.list.length ≤ 1000000) :
    Calls Try.prog 20 #[ntv x lv1 dv1, ntv z lv2 dv2] w fun e w' => e = .returned (.bool (sameN x z)) ∧ Below w.heap.size w w' := by
  obtain ⟨k1, t1, r1, i1, a1, c1, y1, L1, D1⟩ := x
  obtain ⟨k2, t2, r2, i2, a2, c2, y2, L2, D2⟩ := z
  obtain ⟨⟨pl1, cl1, rfl⟩, ⟨pd1, cd1, rfl⟩⟩ := h1.forms
  obtain ⟨⟨pl2, cl2, rfl⟩, ⟨pd2, cd2, rfl⟩⟩ := h2.forms
  unfold ntv sameN
  dsimp only at hn ⊢
  have HB0 := Lib.hid (((Below.refl w.heap.size w).alloc (Nat.le_refl _) (.cells #[.int .u8 (k1 : Int), .int .u64 (t1 : Int), .int .u64 (r1 : Int), .int .u64 (i1 : Int), .int .u64 (a1 : Int), .int .u64 (c1 : Int), .bool y1, .slice pl1 L1.length cl1, .slice pd1 D1.length cd1] 31)).alloc (by simp) (.cells #[.int .u8 (k2 : Int), .int .u64 (t2 : Int), .int .u64 (r2 : Int), .int .u64 (i2 : Int), .int .u64 (a2 : Int), .int .u64 (c2 : Int), .bool y2, .slice pl2 L2.length cl2, .slice pd2 D2.length cd2] 31))
  have HL1 := Lib.hid (h1.l.keeps HB0.out.block)
  have HL2 := Lib.hid (h2.l.keeps HB0.out.block)
  have HD1 := Lib.hid (h1.d.rd.keeps HB0.out.block)
  have HD2 := Lib.hid (h2.d.rd.keeps HB0.out.block)
  clear h1 h2
  dsimp only at HL1 HL2 HD1 HD2 HB0 ⊢
  by_cases h0 : k1 = k2
  · subst h0
    by_cases h1 : t1 = t2
    · subst h1
      by_cases h2 : r1 = r2
      · subst h2
        by_cases h3 : i1 = i2
        · subst h3
          by_cases h4 : a1 = a2
          · subst h4
            by_cases h5 : c1 = c2
            · subst h5
              by_cases h6 : y1 = y2
              · subst h6
                have hq : decide (k1 = k1 ∧ t1 = t1 ∧ r1 = r1 ∧ i1 = i1 ∧ a1 = a1 ∧ c1 = c1 ∧ y1 = y1 ∧ L1 = L2 ∧ D1 = D2) = (decide (L1 = L2) && decide (D1 = D2)) := by simp
                rw [hq]
                clear hq
                have HCl := Lib.hid (sameEntries_w _ _ _ _ L1 L2 _ HL1.out HL2.out hn)
                clear HL1 HL2
                cases hl : decide (L1 = L2) with
                | false =>
                  rw [hl] at HCl
                  rw [Bool.false_and]
                  clear hl HD1 HD2
                  go_enter Try.func20, Try.ntmps20
                  go_wp2_with (go_at_call 75; refine (HCl.out).mono ?_; rintro e w2 ⟨rfl, hB⟩; have HB2 := Lib.hid (HB0.out.trans (hB.mono HB0.out.size)); clear hB HCl)
                  go_ret
                  exact ⟨rfl, HB2.out⟩
                | true =>
                  rw [hl] at HCl
                  rw [Bool.true_and]
                  clear hl
                  have es := str_beq D1 D2
                  have HC1 := Lib.hid (fun (W : World) (hW : RdB W (.slice pd1 D1.length cd1) D1) => run_convert_str (P := Try.prog) hW 29 5 9 Try.underlying29 Try.underlying5 Try.underlying9)
                  have HC2 := Lib.hid (fun (W : World) (hW : RdB W (.slice pd2 D2.length cd2) D2) => run_convert_str (P := Try.prog) hW 29 5 9 Try.underlying29 Try.underlying5 Try.underlying9)
                  generalize decide (D1 = D2) = q at *
                  obtain ⟨Z1, hZ1⟩ : ∃ Z, (⟨D1.toArray⟩ : ByteArray) = Z := ⟨_, rfl⟩
                  obtain ⟨Z2, hZ2⟩ : ∃ Z, (⟨D2.toArray⟩ : ByteArray) = Z := ⟨_, rfl⟩
                  rw [hZ1] at HC1 es
                  rw [hZ2] at HC2 es
                  clear hZ1 hZ2
                  go_enter Try.func20, Try.ntmps20
                  go_wp2_with (go_at_call 75; refine (HCl.out).mono ?_; rintro e w2 ⟨rfl, hB⟩; have HB2 := Lib.hid (HB0.out.trans (hB.mono HB0.out.size)); have hc1 := HC1.out w2 (HD1.out.keeps hB.block); have hc2 := HC2.out w2 (HD2.out.keeps hB.block); have x18 := (hB.cell (p := ⟨w.heap.size, 8, none⟩) (by simp; omega)).trans (show _ = some (.slice pd1 D1.length cd1) by simp); have x28 := (hB.cell (p := ⟨w.heap.size + 1, 8, none⟩) (by simp)).trans (show _ = some (.slice pd2 D2.length cd2) by simp); clear hB HCl)
                  go_ret
                  exact ⟨rfl, HB2.out⟩
              · have e1 : (y1 == y2) = false := by simpa using h6
                have hq : decide (k1 = k1 ∧ t1 = t1 ∧ r1 = r1 ∧ i1 = i1 ∧ a1 = a1 ∧ c1 = c1 ∧ y1 = y2 ∧ L1 = L2 ∧ D1 = D2) = false := by simp only [decide_eq_false_iff_not]; intro e; exact h6 e.2.2.2.2.2.2.1
                rw [hq]
                clear hq h6 HL1 HL2 HD1 HD2
                go_enter Try.func20, Try.ntmps20
                go_wp2
                go_ret
                exact ⟨rfl, HB0.out⟩
            · have e1 : (c1 == c2) = false := by simp; omega
              have e2 : decide (c1 = c2) = false := by simp; omega
              have e3 : ((c1 : Int) == (c2 : Int)) = false := by simp; omega
              have e4 : decide ((c1 : Int) = (c2 : Int)) = false := by simp; omega
              have hq : decide (k1 = k1 ∧ t1 = t1 ∧ r1 = r1 ∧ i1 = i1 ∧ a1 = a1 ∧ c1 = c2 ∧ y1 = y2 ∧ L1 = L2 ∧ D1 = D2) = false := by simp only [decide_eq_false_iff_not]; intro e; exact h5 e.2.2.2.2.2.1
              rw [hq]
              clear hq h5 HL1 HL2 HD1 HD2
              go_enter Try.func20, Try.ntmps20
              go_wp2
              go_ret
              exact ⟨rfl, HB0.out⟩
          · have e1 : (a1 == a2) = false := by simp; omega
            have e2 : decide (a1 = a2) = false := by simp; omega
            have e3 : ((a1 : Int) == (a2 : Int)) = false := by simp; omega
            have e4 : decide ((a1 : Int) = (a2 : Int)) = false := by simp; omega
            have hq : decide (k1 = k1 ∧ t1 = t1 ∧ r1 = r1 ∧ i1 = i1 ∧ a1 = a2 ∧ c1 = c2 ∧ y1 = y2 ∧ L1 = L2 ∧ D1 = D2) = false := by simp only [decide_eq_false_iff_not]; intro e; exact h4 e.2.2.2.2.1
            rw [hq]
            clear hq h4 HL1 HL2 HD1 HD2
            go_enter Try.func20, Try.ntmps20
            go_wp2
            go_ret
            exact ⟨rfl, HB0.out⟩
        · have e1 : (i1 == i2) = false := by simp; omega
          have e2 : decide (i1 = i2) = false := by simp; omega
          have e3 : ((i1 : Int) == (i2 : Int)) = false := by simp; omega
          have e4 : decide ((i1 : Int) = (i2 : Int)) = false := by simp; omega
          have hq : decide (k1 = k1 ∧ t1 = t1 ∧ r1 = r1 ∧ i1 = i2 ∧ a1 = a2 ∧ c1 = c2 ∧ y1 = y2 ∧ L1 = L2 ∧ D1 = D2) = false := by simp only [decide_eq_false_iff_not]; intro e; exact h3 e.2.2.2.1
          rw [hq]
          clear hq h3 HL1 HL2 HD1 HD2
          go_enter Try.func20, Try.ntmps20
          go_wp2
          go_ret
          exact ⟨rfl, HB0.out⟩
      · have e1 : (r1 == r2) = false := by simp; omega
        have e2 : decide (r1 = r2) = false := by simp; omega
        have e3 : ((r1 : Int) == (r2 : Int)) = false := by simp; omega
        have e4 : decide ((r1 : Int) = (r2 : Int)) = false := by simp; omega
        have hq : decide (k1 = k1 ∧ t1 = t1 ∧ r1 = r2 ∧ i1 = i2 ∧ a1 = a2 ∧ c1 = c2 ∧ y1 = y2 ∧ L1 = L2 ∧ D1 = D2) = false := by simp only [decide_eq_false_iff_not]; intro e; exact h2 e.2.2.1
        rw [hq]
        clear hq h2 HL1 HL2 HD1 HD2
        go_enter Try.func20, Try.ntmps20
        go_wp2
        go_ret
        exact ⟨rfl, HB0.out⟩
    · have e1 : (t1 == t2) = false := by simp; omega
      have e2 : decide (t1 = t2) = false := by simp; omega
      have e3 : ((t1 : Int) == (t2 : Int)) = false := by simp; omega
      have e4 : decide ((t1 : Int) = (t2 : Int)) = false := by simp; omega
      have hq : decide (k1 = k1 ∧ t1 = t2 ∧ r1 = r2 ∧ i1 = i2 ∧ a1 = a2 ∧ c1 = c2 ∧ y1 = y2 ∧ L1 = L2 ∧ D1 = D2) = false := by simp only [decide_eq_false_iff_not]; intro e; exact h1 e.2.1
      rw [hq]
      clear hq h1 HL1 HL2 HD1 HD2
      go_enter Try.func20, Try.ntmps20
      go_wp2
      go_ret
      exact ⟨rfl, HB0.out⟩
  · have e1 : (k1 == k2) = false := by simp; omega
    have e2 : decide (k1 = k2) = false := by simp; omega
    have e3 : ((k1 : Int) == (k2 : Int)) = false := by simp; omega
    have e4 : decide ((k1 : Int) = (k2 : Int)) = false := by simp; omega
    have hq : decide (k1 = k2 ∧ t1 = t2 ∧ r1 = r2 ∧ i1 = i2 ∧ a1 = a2 ∧ c1 = c2 ∧ y1 = y2 ∧ L1 = L2 ∧ D1 = D2) = false := by simp only [decide_eq_false_iff_not]; intro e; exact h0 e.1
    rw [hq]
    clear hq h0 HL1 HL2 HD1 HD2
    go_enter Try.func20, Try.ntmps20
    go_wp2
    go_ret
    exact ⟨rfl, HB0.out⟩
end Go.Proofs.Yteellfgiejnigaa
/- A note that came in, by value. -/
namespace Go.Proofs.Yteellfgiejnigaa
open Go.ChangeShapes Go.WideShapes Go.ChangeAt Go.RowKit Go.Deep
set_option linter.unusedVariables false
section
variable {H : Type} {enc : TypeId × Value → H} {w : World} {base : Nat} {spare : Nat → Bool} {held : Bool}
theorem int_of_trod {cs : List Value} {off m : Nat} {k : IntKind} {t : TypeId} {x : DataW H × List MemPlace} (hu : Try.prog.underlying t = some (.int k)) (hc : Try.prog.cellsOf t = 1)
    (h : DataW.trod enc Try.prog w base (fun _ => true) held m t ((cs.drop off).take (Try.prog.cellsOf t)) = some x) : ∃ n, cs[off]? = some (.int k n) ∧ (Lit.int k n).wf = true := by
  rw [hc] at h
  obtain ⟨n, h1, -, h3⟩ := DataW.trod_int hu h
  exact ⟨n, cell_of_take h1, h3⟩
theorem nat_of_trod {cs : List Value} {off m : Nat} {t : TypeId} {x : DataW H × List MemPlace} (hu : Try.prog.underlying t = some (.int .u64)) (hc : Try.prog.cellsOf t = 1)
    (h : DataW.trod enc Try.prog w base (fun _ => true) held m t ((cs.drop off).take (Try.prog.cellsOf t)) = some x) : ∃ n : Nat, cs[off]? = some (.int .u64 (n : Int)) ∧ n < 2 ^ 64 := by
  obtain ⟨n, h1, h2⟩ := int_of_trod hu hc h
  have := wf_u64 h2
  exact ⟨n.toNat, by rw [h1, Int.toNat_of_nonneg this.1], by omega⟩
theorem wf_u8 {n : Int} (h : (Lit.int .u8 n).wf = true) : 0 ≤ n ∧ n ≤ 255 := by
  simpa [Lit.wf, IntKind.min, IntKind.max, IntKind.signed, IntKind.bits] using h
theorem slice_of_trod {cs : List Value} {off m : Nat} {t e : TypeId} {x : DataW H × List MemPlace} (hu : Try.prog.underlying t = some (.slice e)) (hc : Try.prog.cellsOf t = 1)
    (h : DataW.trod enc Try.prog w base (fun _ => true) held m t ((cs.drop off).take (Try.prog.cellsOf t)) = some x) : ∃ a l c, cs[off]? = some (.slice a l c) ∧ DataW.Trod enc Try.prog w base (fun _ => true) held t (.slice a l c) x.1 x.2 := by
  rw [hc] at h
  obtain ⟨a, l, c, e⟩ := Go.Joins.slice_form hu h
  rw [e] at h
  exact ⟨a, l, c, cell_of_take e, m, h⟩
theorem bool_of_trod {cs : List Value} {off m : Nat} {t : TypeId} {x : DataW H × List MemPlace} (hu : Try.prog.underlying t = some .bool) (hc : Try.prog.cellsOf t = 1)
    (h : DataW.trod enc Try.prog w base (fun _ => true) held m t ((cs.drop off).take (Try.prog.cellsOf t)) = some x) : ∃ b, cs[off]? = some (.bool b) := by
  rw [hc] at h
  obtain ⟨b, h1, -⟩ := DataW.trod_bool hu h
  exact ⟨b, cell_of_take h1⟩

set_option maxRecDepth 100000 in
theorem nt_of_trod {v : Value} {d : DataW H} {p : List MemPlace} {base' : Nat} (hz : ∀ b off, MemPlace.cell b off ∈ p → w.frozen? ⟨b, off, none⟩ = false) (hs : Fits Try.prog 31 d)
    (hk : Value.okWide Try.prog w .any base' 31 v) (h : DataW.Trod enc Try.prog w base (fun _ => true) true 31 v d p) :
    ∃ x : Nt × Value × Value, v = ntv x.1 x.2.1 x.2.2 ∧ NtA w (fun b => b < w.heap.size) x.2.1 x.2.2 x.1 ∧ (∀ e ∈ x.1.list, e.2.length ≤ 140737488351232) ∧ x.1.data.length ≤ 140737488351232 := by
  obtain ⟨cs, rfl, hsz⟩ := okWide_struct Try.underlying31 hk
  rw [show Try.prog.cellsOf 31 = 9 by kernel_rfl] at hsz
  obtain ⟨fuel, hf⟩ := h
  obtain ⟨ys, m, _, hyx, hlen, hyl, hff⟩ := DataW.trod_struct Try.underlying31 hf
  simp only [Prod.mk.injEq] at hyx
  obtain ⟨l⟩ := cs
  have hl : l.length = 9 := hsz
  have hcs : (Value.agg ⟨l⟩).cells.toList = l := rfl
  rw [hcs] at hff
  have hy : ∀ j, j < 9 → ∃ y, ys[j]? = some y := fun j hj => ⟨ys[j]'(by rw [hyl]; exact hj), List.getElem?_eq_getElem _⟩
  have hfit : ∀ (j : Nat) (y : DataW H × List MemPlace) (t : TypeId), ys[j]? = some y → ([27, 22, 22, 22, 22, 22, 4, 28, 29] : List TypeId)[j]? = some t → Fits Try.prog t y.1 := by
    intro j y t hj ht z hz'
    refine hs z ?_
    rw [hyx.1, DataW.weights, Try.underlying31]
    refine DataW.weights_mem_each (j := j) (t := t) (d := y.1) ?_ ?_ z hz'
    · exact ht
    · rw [List.getElem?_map, hj]; rfl
  have hin : ∀ (j : Nat) (y : DataW H × List MemPlace), ys[j]? = some y → ∀ x ∈ y.2, x ∈ p := by
    intro j y hj x hx
    rw [hyx.2]
    obtain ⟨hjl, e⟩ := List.getElem?_eq_some_iff.1 hj
    exact List.mem_flatMap.2 ⟨y, e ▸ List.getElem_mem _, hx⟩
  have c4 : Try.prog.cellsOf 4 = 1 := by kernel_rfl
  have c27 : Try.prog.cellsOf 27 = 1 := by kernel_rfl
  have c22 : Try.prog.cellsOf 22 = 1 := by kernel_rfl
  have c28 : Try.prog.cellsOf 28 = 1 := by kernel_rfl
  have c29 : Try.prog.cellsOf 29 = 1 := by kernel_rfl
  obtain ⟨y0, e0⟩ := hy 0 (by decide)
  obtain ⟨y1, e1⟩ := hy 1 (by decide)
  obtain ⟨y2, e2⟩ := hy 2 (by decide)
  obtain ⟨y3, e3⟩ := hy 3 (by decide)
  obtain ⟨y4, e4⟩ := hy 4 (by decide)
  obtain ⟨y5, e5⟩ := hy 5 (by decide)
  obtain ⟨y6, e6⟩ := hy 6 (by decide)
  obtain ⟨y7, e7⟩ := hy 7 (by decide)
  obtain ⟨y8, e8⟩ := hy 8 (by decide)
  obtain ⟨n0, q0, w0⟩ := int_of_trod (off := 0) Try.underlying27 c27 ((hff 0 _ rfl).trans e0)
  obtain ⟨n1, q1, w1⟩ := nat_of_trod (off := 1) Try.underlying22 c22 ((hff 1 _ rfl).trans e1)
  obtain ⟨n2, q2, w2⟩ := nat_of_trod (off := 2) Try.underlying22 c22 ((hff 2 _ rfl).trans e2)
  obtain ⟨n3, q3, w3⟩ := nat_of_trod (off := 3) Try.underlying22 c22 ((hff 3 _ rfl).trans e3)
  obtain ⟨n4, q4, w4⟩ := nat_of_trod (off := 4) Try.underlying22 c22 ((hff 4 _ rfl).trans e4)
  obtain ⟨n5, q5, w5⟩ := nat_of_trod (off := 5) Try.underlying22 c22 ((hff 5 _ rfl).trans e5)
  obtain ⟨b6, q6⟩ := bool_of_trod (off := 6) Try.underlying4 c4 ((hff 6 _ rfl).trans e6)
  obtain ⟨a7, l7, k7, q7, t7⟩ := slice_of_trod (off := 7) Try.underlying28 c28 ((hff 7 _ rfl).trans e7)
  obtain ⟨a8, l8, k8, q8, t8⟩ := slice_of_trod (off := 8) Try.underlying29 c29 ((hff 8 _ rfl).trans e8)
  obtain ⟨es, hes, hel⟩ := ents_of_trod (fun b off h => hz b off (hin 7 _ e7 _ h)) (hfit 7 _ 28 e7 rfl) t7
  obtain ⟨t, htl, ht⟩ := RdB_of_trod Try.underlying29 Try.underlying5 (by kernel_rfl) t8
  have hda : DatA w (fun b => b < w.heap.size) (.slice a8 l8 k8) t := DatA.of_rd ht fun b off c e i hi => by
    cases e
    exact hz _ _ (hin 8 _ e8 _ (bytes_places Try.underlying29 (by kernel_rfl) t8 _ _ rfl i (by omega)))
  have hdl : t.length ≤ 140737488351232 := by rw [htl]; exact bytes_fit Try.underlying29 (by kernel_rfl) (hfit 8 _ 29 e8 rfl) t8
  obtain ⟨m0, rfl⟩ : ∃ m0 : Nat, n0 = (m0 : Int) := ⟨n0.toNat, by have := (wf_u8 w0).1; omega⟩
  refine ⟨(⟨m0, n1, n2, n3, n4, n5, b6, es, t⟩, .slice a7 l7 k7, .slice a8 l8 k8), ?_, ⟨hes, hda, ?_, w1, w2, w3, w4, w5⟩, hel, hdl⟩
  · unfold ntv
    congr 1
    apply Array.ext'
    show l = [_, _, _, _, _, _, _, _, _]
    apply List.ext_getElem?
    intro i
    by_cases hi : i < 9
    · have h : i = 0 ∨ i = 1 ∨ i = 2 ∨ i = 3 ∨ i = 4 ∨ i = 5 ∨ i = 6 ∨ i = 7 ∨ i = 8 := by omega
      rcases h with rfl | rfl | rfl | rfl | rfl | rfl | rfl | rfl | rfl
      · exact q0
      · exact q1
      · exact q2
      · exact q3
      · exact q4
      · exact q5
      · exact q6
      · exact q7
      · exact q8
    · rw [List.getElem?_eq_none (by omega), List.getElem?_eq_none (by simp; omega)]
  · show m0 < 256
    have := (wf_u8 w0).2
    omega
end
end Go.Proofs.Yteellfgiejnigaa
/- Walks of notes' fields, May$1, slices.IndexFunc and ContainsFunc. -/
namespace Go.Proofs.Yteellfgiejnigaa
open Go.ChangeShapes Go.WideShapes Go.ChangeAt Go.RowKit
set_option linter.unusedVariables false
end Go.Proofs.Yteellfgiejnigaa
/- The walk of notes.May (what is said; no kind). -/
namespace Go.Proofs.Yteellfgiejnigaa
open Go.ChangeShapes Go.WideShapes Go.ChangeAt Go.RowKit
set_option linter.unusedVariables false
end Go.Proofs.Yteellfgiejnigaa
