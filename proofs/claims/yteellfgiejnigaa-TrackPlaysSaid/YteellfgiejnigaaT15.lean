/- The walk of the document's Same: are two rows the same entries? -/
import Derived.Test.YteellfgiejnigaaT14
namespace Go.Proofs.Yteellfgiejnigaa
open Go.ChangeShapes Go.WideShapes Go.ChangeAt Go.RowKit
set_option linter.unusedVariables false

theorem EsR.both {w : World} {S : Foot} {v : Value} {es : List Ent} (h : EsR w S v es) (k : Nat) (hk : k < es.length) : ∃ b off c d, v = .slice (some ⟨b, off, none⟩) es.length c ∧
    w.cell? ⟨b, off + k * 2, none⟩ = some (.int .u64 ((es[k].1 : Nat) : Int)) ∧ w.cell? ⟨b, off + k * 2 + 1, none⟩ = some d ∧ RdB w d es[k].2 := by
  obtain ⟨b, off, n, c, d, h1, h2, h3, h4, _⟩ := h.elem k hk
  subst h2
  exact ⟨b, off, c, d, h1, by simpa using h3 0 _ rfl, by simpa using h3 1 _ rfl, h4.rd⟩
theorem bytes_ne {l m : List UInt8} (h : l ≠ m) : ((⟨l.toArray⟩ : ByteArray) == (⟨m.toArray⟩ : ByteArray)) = false := by
  rw [beq_toListBytes, ByteArray.toList_eq, ByteArray.toList_eq]
  simpa using h
set_option maxRecDepth 100000 in
set_option maxHeartbeats 3200000 in
theorem same_w (R1 R2 : Foot) (va vb : Value) (es fs : List Ent) (w : World) (ha : EsR w R1 va es) (hb : EsR w R2 vb fs) (hn : es.length ≤ 1000000) :
    Calls Try.prog 29 #[va, vb] w fun r w' => r = .returned (.bool (decide (es = fs))) ∧ Below w.heap.size w w' := by
  obtain ⟨pa, ca, rfl⟩ : ∃ p c, va = .slice p es.length c := by obtain ⟨p, c, xs, e, _⟩ := ha; exact ⟨p, c, e⟩
  obtain ⟨pb, cb, rfl⟩ : ∃ p c, vb = .slice p fs.length c := by obtain ⟨p, c, xs, e, _⟩ := hb; exact ⟨p, c, e⟩
  have Ha := Lib.hid ha
  have Hb := Lib.hid hb
  clear ha hb
  by_cases hl : es.length = fs.length
  · have e1 : ((es.length : Int) == (fs.length : Int)) = true := by simp [hl]
    have e2 : (es.length == fs.length) = true := by simp [hl]
    have Hl := Lib.hid hl
    have e3 : decide (es.length = fs.length) = true := by simp [hl]
    have e0 : ((es.length : Int) != (fs.length : Int)) = false := by simp [hl]
    have e4 : (es.length != fs.length) = false := by simp [hl]
    clear hl
    go_enter Try.func29, Try.ntmps29
    go_wp2
    go_loopw [5] (fun i wr => ∃ k : Nat, k ≤ es.length ∧ i = .int .i64 (k : Int) ∧ Hid (es.take k = fs.take k) ∧ Hid (Below w.heap.size w wr)) (fun i _ => es.length - (intOf i).toNat)
    case atStart => exact ⟨0, Nat.zero_le _, rfl, Lib.hid rfl, Lib.hid (Below.refl _ _)⟩
    case round =>
      obtain ⟨k, hk, rfl, HT, HB⟩ := hrel
      by_cases hlt : k < es.length
      · have hlt2 : k < fs.length := by have := Hl.out; omega
        obtain ⟨b1, o1, c1, d1, hv1, q1, q2, q3⟩ := Ha.out.both k hlt
        obtain ⟨b2, o2, c2, d2, hv2, r1, r2, r3⟩ := Hb.out.both k hlt2
        cases hv1
        cases hv2
        have H1 := Lib.hid (And.intro q1 (And.intro q2 q3))
        have H2 := Lib.hid (And.intro r1 (And.intro r2 r3))
        have Hse := Lib.hid (show es.take (k + 1) = es.take k ++ [(es[k].1, es[k].2)] by rw [List.take_succ_eq_append_getElem hlt])
        have Hsf := Lib.hid (show fs.take (k + 1) = fs.take k ++ [(fs[k].1, fs[k].2)] by rw [List.take_succ_eq_append_getElem hlt2])
        have Hne := Lib.hid (fun (h : ¬ (es[k].1 = fs[k].1 ∧ es[k].2 = fs[k].2)) => (show decide (es = fs) = false by
          simp only [decide_eq_false_iff_not]; intro e; apply h; subst e; exact ⟨rfl, rfl⟩))
        have hnb : ¬ ((es.length : Int) ≤ (k : Int)) := by omega
        have hnb2 : ¬ (es.length ≤ k) := by omega
        have hnb3 : ¬ ((fs.length : Int) ≤ (k : Int)) := by omega
        have hnb4 : ¬ (fs.length ≤ k) := by omega
        generalize es[k].1 = t1 at *
        generalize es[k].2 = l1 at *
        generalize fs[k].1 = t2 at *
        generalize fs[k].2 = l2 at *
        obtain ⟨dp1, dc1, rfl⟩ : ∃ p c, d1 = .slice p l1.length c := by obtain ⟨p, c, h1, _⟩ := q3; exact ⟨p, c, h1⟩
        obtain ⟨dp2, dc2, rfl⟩ : ∃ p c, d2 = .slice p l2.length c := by obtain ⟨p, c, h1, _⟩ := r3; exact ⟨p, c, h1⟩
        obtain ⟨S1, E1⟩ : ∃ S, Hid ((⟨l1.toArray⟩ : ByteArray) = S) := ⟨_, Lib.hid rfl⟩
        obtain ⟨S2, E2⟩ : ∃ S, Hid ((⟨l2.toArray⟩ : ByteArray) = S) := ⟨_, Lib.hid rfl⟩
        have HK : Hid (Keeps w wr) := Lib.hid (fun b hb => HB.out.block b hb)
        have HW := Lib.hid (fun (W : World) (h : Keeps w W) => And.intro (And.intro (h.cell H1.out.1) (h.cell H1.out.2.1)) (And.intro (h.cell H2.out.1) (h.cell H2.out.2.1)))
        have HC := Lib.hid (fun (W : World) (h : Keeps w W) => And.intro (run_convert_str (P := Try.prog) (H1.out.2.2.keeps h) 29 5 9 Try.underlying29 Try.underlying5 Try.underlying9) (run_convert_str (P := Try.prog) (H2.out.2.2.keeps h) 29 5 9 Try.underlying29 Try.underlying5 Try.underlying9))
        clear q1 q2 q3 r1 r2 r3 hlt2
        by_cases ht : t1 = t2
        · subst ht
          by_cases hll : l1 = l2
          · subst hll
            go_wp2
            apply RegT.wp_region_T rfl 43 26 rfl (by kernel_rfl) RegT.Grow RegT.Grow.refl RegT.Grow.trans
            · iterate 2
                apply RegT.T_pure rfl rfl rfl
                · intro W hR; go_simp; rfl
                simp only [List.set_cons_succ, List.set_cons_zero, Nat.reduceAdd]
              apply RegT.T_pure (v := .pointer (some ⟨b1, o1 + k * 2, none⟩)) rfl rfl rfl
              · intro W hR; clear hR; go_simp
              simp only [List.set_cons_succ, List.set_cons_zero, Nat.reduceAdd]
              apply RegT.T_pure (v := .pointer (some ⟨b1, o1 + k * 2, none⟩)) rfl rfl rfl
              · intro W hR; clear hR; go_simp
              simp only [List.set_cons_succ, List.set_cons_zero, Nat.reduceAdd]
              apply RegT.T_pure (v := .int .u64 (t1 : Int)) rfl rfl rfl
              · intro W hR
                have hc := (HW.out W (HK.out.trans ((Keeps.refl wr).drew.trans hR.block))).1.1
                clear hR
                go_simp
              simp only [List.set_cons_succ, List.set_cons_zero, Nat.reduceAdd]
              iterate 2
                apply RegT.T_pure rfl rfl rfl
                · intro W hR; go_simp; rfl
                simp only [List.set_cons_succ, List.set_cons_zero, Nat.reduceAdd]
              apply RegT.T_pure (v := .pointer (some ⟨b2, o2 + k * 2, none⟩)) rfl rfl rfl
              · intro W hR; clear hR; go_simp
              simp only [List.set_cons_succ, List.set_cons_zero, Nat.reduceAdd]
              apply RegT.T_pure (v := .pointer (some ⟨b2, o2 + k * 2, none⟩)) rfl rfl rfl
              · intro W hR; clear hR; go_simp
              simp only [List.set_cons_succ, List.set_cons_zero, Nat.reduceAdd]
              apply RegT.T_pure (v := .int .u64 (t1 : Int)) rfl rfl rfl
              · intro W hR
                have hc := (HW.out W (HK.out.trans ((Keeps.refl wr).drew.trans hR.block))).2.1
                clear hR
                go_simp
              simp only [List.set_cons_succ, List.set_cons_zero, Nat.reduceAdd]
              apply RegT.T_pure (v := .bool false) rfl rfl rfl
              · intro W hR; clear hR; go_simp
              simp only [List.set_cons_succ, List.set_cons_zero, Nat.reduceAdd]
              iterate 1
                apply RegT.T_pure rfl rfl rfl
                · intro W hR; go_simp; rfl
                simp only [List.set_cons_succ, List.set_cons_zero, Nat.reduceAdd]
              iterate 2
                apply RegT.T_pure rfl rfl rfl
                · intro W hR; go_simp; rfl
                simp only [List.set_cons_succ, List.set_cons_zero, Nat.reduceAdd]
              apply RegT.T_pure (v := .pointer (some ⟨b1, o1 + k * 2, none⟩)) rfl rfl rfl
              · intro W hR; clear hR; go_simp
              simp only [List.set_cons_succ, List.set_cons_zero, Nat.reduceAdd]
              apply RegT.T_pure (v := .pointer (some ⟨b1, o1 + k * 2 + 1, none⟩)) rfl rfl rfl
              · intro W hR; clear hR; go_simp
              simp only [List.set_cons_succ, List.set_cons_zero, Nat.reduceAdd]
              apply RegT.T_pure (v := .slice dp1 l1.length dc1) rfl rfl rfl
              · intro W hR
                have hc := (HW.out W (HK.out.trans ((Keeps.refl wr).drew.trans hR.block))).1.2
                clear hR
                go_simp
              simp only [List.set_cons_succ, List.set_cons_zero, Nat.reduceAdd]
              apply RegT.T_pure (v := .string S1) rfl rfl rfl
              · intro W hR
                have hc := (HC.out W (HK.out.trans ((Keeps.refl wr).drew.trans hR.block))).1
                rw [E1.out] at hc
                clear hR
                go_simp
              simp only [List.set_cons_succ, List.set_cons_zero, Nat.reduceAdd]
              iterate 2
                apply RegT.T_pure rfl rfl rfl
                · intro W hR; go_simp; rfl
                simp only [List.set_cons_succ, List.set_cons_zero, Nat.reduceAdd]
              apply RegT.T_pure (v := .pointer (some ⟨b2, o2 + k * 2, none⟩)) rfl rfl rfl
              · intro W hR; clear hR; go_simp
              simp only [List.set_cons_succ, List.set_cons_zero, Nat.reduceAdd]
              apply RegT.T_pure (v := .pointer (some ⟨b2, o2 + k * 2 + 1, none⟩)) rfl rfl rfl
              · intro W hR; clear hR; go_simp
              simp only [List.set_cons_succ, List.set_cons_zero, Nat.reduceAdd]
              apply RegT.T_pure (v := .slice dp2 l1.length dc2) rfl rfl rfl
              · intro W hR
                have hc := (HW.out W (HK.out.trans ((Keeps.refl wr).drew.trans hR.block))).2.2
                clear hR
                go_simp
              simp only [List.set_cons_succ, List.set_cons_zero, Nat.reduceAdd]
              apply RegT.T_pure (v := .string S1) rfl rfl rfl
              · intro W hR
                have hc := (HC.out W (HK.out.trans ((Keeps.refl wr).drew.trans hR.block))).2
                rw [E1.out] at hc
                clear hR
                go_simp
              simp only [List.set_cons_succ, List.set_cons_zero, Nat.reduceAdd]
              apply RegT.T_pure (v := .bool false) rfl rfl rfl
              · intro W hR; clear hR; go_simp
              simp only [List.set_cons_succ, List.set_cons_zero, Nat.reduceAdd]
              apply RegT.T_pure (v := .bool false) rfl rfl rfl
              · intro W hR; clear hR; go_simp
              simp only [List.set_cons_succ, List.set_cons_zero, Nat.reduceAdd]
              refine RegT.T_tail (fun W hR hf => ?_)
              have HB2 := Lib.hid (HB.out.trans (((Below.refl _ wr).drew.trans hR).mono HB.out.size))
              clear hR hf
              simp only [List.drop_succ_cons, List.drop_zero]
              go_wp2
              go_roundw
              case rel => exact ⟨k + 1, by omega, by go_num, Lib.hid (by rw [Hse.out, Hsf.out, HT.out]), HB2⟩
              case measure => simp [intOf]; omega
            · rfl
            · kernel_rfl
          · have hs12 : (S1 == S2) = false := by rw [← E1.out, ← E2.out]; exact bytes_ne hll
            have hs0 : ¬ S1.toList = S2.toList := by rw [← E1.out, ← E2.out, ByteArray.toList_eq, ByteArray.toList_eq]; simpa using hll
            go_wp2
            apply RegT.wp_region_T rfl 43 26 rfl (by kernel_rfl) RegT.Grow RegT.Grow.refl RegT.Grow.trans
            · iterate 2
                apply RegT.T_pure rfl rfl rfl
                · intro W hR; go_simp; rfl
                simp only [List.set_cons_succ, List.set_cons_zero, Nat.reduceAdd]
              apply RegT.T_pure (v := .pointer (some ⟨b1, o1 + k * 2, none⟩)) rfl rfl rfl
              · intro W hR; clear hR; go_simp
              simp only [List.set_cons_succ, List.set_cons_zero, Nat.reduceAdd]
              apply RegT.T_pure (v := .pointer (some ⟨b1, o1 + k * 2, none⟩)) rfl rfl rfl
              · intro W hR; clear hR; go_simp
              simp only [List.set_cons_succ, List.set_cons_zero, Nat.reduceAdd]
              apply RegT.T_pure (v := .int .u64 (t1 : Int)) rfl rfl rfl
              · intro W hR
                have hc := (HW.out W (HK.out.trans ((Keeps.refl wr).drew.trans hR.block))).1.1
                clear hR
                go_simp
              simp only [List.set_cons_succ, List.set_cons_zero, Nat.reduceAdd]
              iterate 2
                apply RegT.T_pure rfl rfl rfl
                · intro W hR; go_simp; rfl
                simp only [List.set_cons_succ, List.set_cons_zero, Nat.reduceAdd]
              apply RegT.T_pure (v := .pointer (some ⟨b2, o2 + k * 2, none⟩)) rfl rfl rfl
              · intro W hR; clear hR; go_simp
              simp only [List.set_cons_succ, List.set_cons_zero, Nat.reduceAdd]
              apply RegT.T_pure (v := .pointer (some ⟨b2, o2 + k * 2, none⟩)) rfl rfl rfl
              · intro W hR; clear hR; go_simp
              simp only [List.set_cons_succ, List.set_cons_zero, Nat.reduceAdd]
              apply RegT.T_pure (v := .int .u64 (t1 : Int)) rfl rfl rfl
              · intro W hR
                have hc := (HW.out W (HK.out.trans ((Keeps.refl wr).drew.trans hR.block))).2.1
                clear hR
                go_simp
              simp only [List.set_cons_succ, List.set_cons_zero, Nat.reduceAdd]
              apply RegT.T_pure (v := .bool false) rfl rfl rfl
              · intro W hR; clear hR; go_simp
              simp only [List.set_cons_succ, List.set_cons_zero, Nat.reduceAdd]
              iterate 1
                apply RegT.T_pure rfl rfl rfl
                · intro W hR; go_simp; rfl
                simp only [List.set_cons_succ, List.set_cons_zero, Nat.reduceAdd]
              iterate 2
                apply RegT.T_pure rfl rfl rfl
                · intro W hR; go_simp; rfl
                simp only [List.set_cons_succ, List.set_cons_zero, Nat.reduceAdd]
              apply RegT.T_pure (v := .pointer (some ⟨b1, o1 + k * 2, none⟩)) rfl rfl rfl
              · intro W hR; clear hR; go_simp
              simp only [List.set_cons_succ, List.set_cons_zero, Nat.reduceAdd]
              apply RegT.T_pure (v := .pointer (some ⟨b1, o1 + k * 2 + 1, none⟩)) rfl rfl rfl
              · intro W hR; clear hR; go_simp
              simp only [List.set_cons_succ, List.set_cons_zero, Nat.reduceAdd]
              apply RegT.T_pure (v := .slice dp1 l1.length dc1) rfl rfl rfl
              · intro W hR
                have hc := (HW.out W (HK.out.trans ((Keeps.refl wr).drew.trans hR.block))).1.2
                clear hR
                go_simp
              simp only [List.set_cons_succ, List.set_cons_zero, Nat.reduceAdd]
              apply RegT.T_pure (v := .string S1) rfl rfl rfl
              · intro W hR
                have hc := (HC.out W (HK.out.trans ((Keeps.refl wr).drew.trans hR.block))).1
                rw [E1.out] at hc
                clear hR
                go_simp
              simp only [List.set_cons_succ, List.set_cons_zero, Nat.reduceAdd]
              iterate 2
                apply RegT.T_pure rfl rfl rfl
                · intro W hR; go_simp; rfl
                simp only [List.set_cons_succ, List.set_cons_zero, Nat.reduceAdd]
              apply RegT.T_pure (v := .pointer (some ⟨b2, o2 + k * 2, none⟩)) rfl rfl rfl
              · intro W hR; clear hR; go_simp
              simp only [List.set_cons_succ, List.set_cons_zero, Nat.reduceAdd]
              apply RegT.T_pure (v := .pointer (some ⟨b2, o2 + k * 2 + 1, none⟩)) rfl rfl rfl
              · intro W hR; clear hR; go_simp
              simp only [List.set_cons_succ, List.set_cons_zero, Nat.reduceAdd]
              apply RegT.T_pure (v := .slice dp2 l2.length dc2) rfl rfl rfl
              · intro W hR
                have hc := (HW.out W (HK.out.trans ((Keeps.refl wr).drew.trans hR.block))).2.2
                clear hR
                go_simp
              simp only [List.set_cons_succ, List.set_cons_zero, Nat.reduceAdd]
              apply RegT.T_pure (v := .string S2) rfl rfl rfl
              · intro W hR
                have hc := (HC.out W (HK.out.trans ((Keeps.refl wr).drew.trans hR.block))).2
                rw [E2.out] at hc
                clear hR
                go_simp
              simp only [List.set_cons_succ, List.set_cons_zero, Nat.reduceAdd]
              apply RegT.T_pure (v := .bool true) rfl rfl rfl
              · intro W hR; clear hR; go_simp
              simp only [List.set_cons_succ, List.set_cons_zero, Nat.reduceAdd]
              apply RegT.T_pure (v := .bool true) rfl rfl rfl
              · intro W hR; clear hR; go_simp
              simp only [List.set_cons_succ, List.set_cons_zero, Nat.reduceAdd]
              refine RegT.T_tail (fun W hR hf => ?_)
              have HB2 := Lib.hid (HB.out.trans (((Below.refl _ wr).drew.trans hR).mono HB.out.size))
              clear hR hf
              simp only [List.drop_succ_cons, List.drop_zero]
              go_wp2
              go_ret
              exact ⟨by rw [Hne.out (fun e => hll e.2)]; rfl, HB2.out⟩
            · rfl
            · kernel_rfl
        · have ht1 : (t1 == t2) = false := by simp [ht]
          have ht0 : ¬ ((t1 : Int) = (t2 : Int)) := by omega
          have ht2 : decide (t1 = t2) = false := by simp [ht]
          go_wp2
          apply RegT.wp_region_T rfl 43 26 rfl (by kernel_rfl) RegT.Grow RegT.Grow.refl RegT.Grow.trans
          · iterate 2
              apply RegT.T_pure rfl rfl rfl
              · intro W hR; go_simp; rfl
              simp only [List.set_cons_succ, List.set_cons_zero, Nat.reduceAdd]
            apply RegT.T_pure (v := .pointer (some ⟨b1, o1 + k * 2, none⟩)) rfl rfl rfl
            · intro W hR; clear hR; go_simp
            simp only [List.set_cons_succ, List.set_cons_zero, Nat.reduceAdd]
            apply RegT.T_pure (v := .pointer (some ⟨b1, o1 + k * 2, none⟩)) rfl rfl rfl
            · intro W hR; clear hR; go_simp
            simp only [List.set_cons_succ, List.set_cons_zero, Nat.reduceAdd]
            apply RegT.T_pure (v := .int .u64 (t1 : Int)) rfl rfl rfl
            · intro W hR
              have hc := (HW.out W (HK.out.trans ((Keeps.refl wr).drew.trans hR.block))).1.1
              clear hR
              go_simp
            simp only [List.set_cons_succ, List.set_cons_zero, Nat.reduceAdd]
            iterate 2
              apply RegT.T_pure rfl rfl rfl
              · intro W hR; go_simp; rfl
              simp only [List.set_cons_succ, List.set_cons_zero, Nat.reduceAdd]
            apply RegT.T_pure (v := .pointer (some ⟨b2, o2 + k * 2, none⟩)) rfl rfl rfl
            · intro W hR; clear hR; go_simp
            simp only [List.set_cons_succ, List.set_cons_zero, Nat.reduceAdd]
            apply RegT.T_pure (v := .pointer (some ⟨b2, o2 + k * 2, none⟩)) rfl rfl rfl
            · intro W hR; clear hR; go_simp
            simp only [List.set_cons_succ, List.set_cons_zero, Nat.reduceAdd]
            apply RegT.T_pure (v := .int .u64 (t2 : Int)) rfl rfl rfl
            · intro W hR
              have hc := (HW.out W (HK.out.trans ((Keeps.refl wr).drew.trans hR.block))).2.1
              clear hR
              go_simp
            simp only [List.set_cons_succ, List.set_cons_zero, Nat.reduceAdd]
            apply RegT.T_pure (v := .bool true) rfl rfl rfl
            · intro W hR; clear hR; go_simp
            simp only [List.set_cons_succ, List.set_cons_zero, Nat.reduceAdd]
            iterate 1
              apply RegT.T_pure rfl rfl rfl
              · intro W hR; go_simp; rfl
              simp only [List.set_cons_succ, List.set_cons_zero, Nat.reduceAdd]
            iterate 13
              apply RegT.T_skip rfl rfl rfl
              simp only [List.set_cons_succ, List.set_cons_zero, Nat.reduceAdd]
            apply RegT.T_pure (v := .bool true) rfl rfl rfl
            · intro W hR; clear hR; go_simp
            simp only [List.set_cons_succ, List.set_cons_zero, Nat.reduceAdd]
            refine RegT.T_tail (fun W hR hf => ?_)
            have HB2 := Lib.hid (HB.out.trans (((Below.refl _ wr).drew.trans hR).mono HB.out.size))
            clear hR hf
            simp only [List.drop_succ_cons, List.drop_zero]
            go_wp2
            go_ret
            exact ⟨by rw [Hne.out (fun e => ht e.1)]; rfl, HB2.out⟩
          · rfl
          · kernel_rfl
      · have hk2 : k = es.length := by omega
        have Hfin := Lib.hid (show decide (es = fs) = true by
          have h1 := HT.out
          rw [hk2, List.take_length, Hl.out, List.take_length] at h1
          simp [h1])
        go_wp2
        go_ret
        exact ⟨by rw [Hfin.out]; rfl, HB.out⟩
  · have e1 : ((es.length : Int) == (fs.length : Int)) = false := by simp; omega
    have e2 : (es.length == fs.length) = false := by simp [hl]
    have e3 : decide (es.length = fs.length) = false := by simp [hl]
    have Hf := Lib.hid (show decide (es = fs) = false by simp only [decide_eq_false_iff_not]; intro e; exact hl (by rw [e]))
    clear hl
    go_enter Try.func29, Try.ntmps29
    go_wp2
    go_ret
    exact ⟨by rw [Hf.out]; rfl, Below.refl _ _⟩
end Go.Proofs.Yteellfgiejnigaa
