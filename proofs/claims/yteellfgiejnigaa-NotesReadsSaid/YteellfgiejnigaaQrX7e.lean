/- The document's Read: kind 4. -/
import Derived.Test.YteellfgiejnigaaQrX6
import Derived.Deep.RegionLaw
namespace Go.Proofs.Yteellfgiejnigaa
open Go.ChangeShapes Go.WideShapes Go.ChangeAt Go.RowKit
set_option linter.unusedVariables false
set_option maxRecDepth 100000 in
set_option maxHeartbeats 12800000 in
theorem rread_4_w (t : Nat) (s1 s2 : Rd.St) (v : Value) (b : List UInt8) (w : World) (hb : RdB w v b) (hl : b.length ≤ 1000000) (hK : Form.small b 0 0 7 = (4, s1)) (hT : Form.small b s1.1 s1.2 18446744073709551615 = (t, s2)) (y : Bool) (sY : Rd.St) (hY : Form.flg b s2.1 s2.2 = (y, sY))
    (hfm : Form.done b.length sY.1 sY.2 = 0 → formN ⟨4, t, 0, 0, 0, 0, y, [], []⟩ = b) :
    Calls Try.prog 44 #[v] w (ReadP w ⟨4, t, 0, 0, 0, 0, y, [], []⟩ (decide (Form.done b.length sY.1 sY.2 = 0) && mayN ⟨4, t, 0, 0, 0, 0, y, [], []⟩)) := by
  have hoff : ∀ x, w.heap.size ≤ x → Off v x := fun x hx => hb.off hx
  have Hoff := Lib.hid hoff
  have HN0 := Lib.hid (NF.start hb)
  have h1l : s1.1 ≤ b.length := (Form.small_le (a' := s1.1) (e' := s1.2) hK (Nat.zero_le _)).2.1
  have h2l : s2.1 ≤ b.length := (Form.small_le (a' := s2.1) (e' := s2.2) hT h1l).2.1
  have htl : t < 2 ^ 64 := (Form.small_le (a' := s2.1) (e' := s2.2) hT h1l).2.2
  have HK := Lib.hid hK
  have HT := Lib.hid hT
  have H1l := Lib.hid h1l
  have H2l := Lib.hid h2l
  have Htl := Lib.hid htl
  have lY : sY.1 ≤ b.length := Form.flg_le (a' := sY.1) (e' := sY.2) hY h2l
  have LY := Lib.hid lY
  have GY := Lib.hid hY
  have Hfm := Lib.hid hfm
  obtain ⟨p, c0, rfl, _⟩ := hb
  have ew : IntKind.u8.wrap (4 : Int) = 4 := by decide
  clear hoff hK hT hY h1l h2l htl lY hfm
  go_enter Try.func44, Try.ntmps44
  obtain ⟨E, hE⟩ : ∃ E, Form.done b.length sY.1 sY.2 = E := ⟨_, rfl⟩
  obtain ⟨mb, hmb⟩ : ∃ mb, mayN ⟨4, t, 0, 0, 0, 0, y, [], []⟩ = mb := ⟨_, rfl⟩
  have HE := Lib.hid hE
  have HMb := Lib.hid hmb
  have HX := Lib.hid (fun (W : World) (h : EsG W (FF w) 53 (.slice none 0 0) []) => (show NtA W (FF w) (.slice none 0 0) (.slice none 0 0) ⟨4, t, 0, 0, 0, 0, y, [], []⟩ from FF.of_list h (by decide) Htl.out (by decide) (by decide) (by decide) (by decide)))
  have HM := Lib.hid (fun (W : World) (h : NtA W (FF w) (.slice none 0 0) (.slice none 0 0) ⟨4, t, 0, 0, 0, 0, y, [], []⟩) => (show Calls Try.prog 47 #[.agg #[.int .u8 4, .int .u64 (t : Int), .int .u64 0, .int .u64 0, .int .u64 0, .int .u64 0, .bool y, .slice none 0 0, .slice none 0 0]] W fun e w' => e = .returned (.bool mb) ∧ Below W.heap.size W w' from by rw [← hmb]; exact rmay_w ⟨4, t, 0, 0, 0, 0, y, [], []⟩ _ _ _ W h (Nat.zero_le _)))
  have HBy := Lib.hid (fun (hm : mayN ⟨4, t, 0, 0, 0, 0, y, [], []⟩ = true) (h0 : Form.done b.length sY.1 sY.2 = 0) (W : World) (h : NtA W (FF w) (.slice none 0 0) (.slice none 0 0) ⟨4, t, 0, 0, 0, 0, y, [], []⟩) => (show Calls Try.prog 48 #[.agg #[.int .u8 4, .int .u64 (t : Int), .int .u64 0, .int .u64 0, .int .u64 0, .int .u64 0, .bool y, .slice none 0 0, .slice none 0 0]] W fun e w' => (∃ p n c, e = .returned (.slice p n c) ∧ OB w' W.heap.size 5 (.slice p n c) b) ∧ Below W.heap.size W w' from by have h := rbytes_w ⟨4, t, 0, 0, 0, 0, y, [], []⟩ _ _ _ W h hm; rw [Hfm.out h0] at h; exact h))
  have Hle := Lib.hid (show sY.1 ≤ b.length from LY.out)
  have Hrow := Lib.hid ((show (#[.int .u8 4, .int .u64 (t : Int), .int .u64 0, .int .u64 0, .int .u64 0, .int .u64 0, .bool y, .slice none 0 0, .slice none 0 0] : Array Value).all (·.oneCell') = true from by simp [Value.oneCell']))
  clear hmb hE
  go_wp2_with (first
    | (refine wpList_alloc_zero rfl 31 rfl _ hz31 ?_)
    | (go_at_call 87; go_loud ((with_reducible refine (refsmall_z _ _ b _ _ w.heap.size 7 7 rfl _ HN0.out.rd (Nat.le_succ _) (Nat.zero_le _) hl (by decide)).mono ?_); rintro e W1 ⟨n', a', e', h1, rfl, hm⟩; rw [HK.out] at h1; obtain ⟨rfl, rfl, rfl⟩ := take3 h1; clear h1; have HM := Lib.hid (HN0.out.read Hoff.out hm); have hcc := (HM.out.at 0).trans (show _ = some (Value.int .u8 0) from rfl); have hff := HM.out.thaw 0; have HN1 := Lib.hid (show NF w (W1.setCell ⟨w.heap.size + 1 + 1, 0, none⟩ (.int .u8 4)) _ b _ #[.int .u8 4, .int .u64 0, .int .u64 0, .int .u64 0, .int .u64 0, .int .u64 0, .bool false, .slice none 0 0, .slice none 0 0] from HM.out.put Hoff.out 0 (.int .u8 4)); have xk := (HN1.out.at 0).trans (show _ = some (Value.int .u8 4) from rfl); clear hm HM HN0))
    | (go_at_call 88; go_loud ((with_reducible refine (refrnat_w _ _ b _ _ w.heap.size _ HN1.out.rd (Nat.le_succ _) H1l.out hl).mono ?_); rintro e W2 ⟨n', a', e', h1, rfl, hm⟩; rw [HT.out] at h1; obtain ⟨rfl, rfl, rfl⟩ := take3 h1; clear h1; have HM := Lib.hid (HN1.out.read Hoff.out hm); have hcc := (HM.out.at 1).trans (show _ = some (Value.int .u64 0) from rfl); have hff := HM.out.thaw 1; have HN2 := Lib.hid (show NF w (W2.setCell ⟨w.heap.size + 1 + 1, 1, none⟩ (.int .u64 (t : Int))) _ b _ #[.int .u8 4, .int .u64 (t : Int), .int .u64 0, .int .u64 0, .int .u64 0, .int .u64 0, .bool false, .slice none 0 0, .slice none 0 0] from HM.out.put Hoff.out 1 (.int .u64 (t : Int))); have xk := (HN2.out.at 0).trans (show _ = some (Value.int .u8 4) from rfl); clear hm HM HN1))
    | (go_at_call 89; go_loud ((with_reducible refine (refrflag_w _ _ b _ _ w.heap.size _ HN2.out.rd (Nat.le_succ _) H2l.out hl).mono ?_); rintro e W3 ⟨n', a', e', h1, rfl, hm⟩; rw [GY.out] at h1; obtain ⟨rfl, rfl, rfl⟩ := take3 h1; clear h1; have HM := Lib.hid (HN2.out.read Hoff.out hm); have hcc := (HM.out.at 6).trans (show _ = some (Value.bool false) from rfl); have hff := HM.out.thaw 6; have HN3 := Lib.hid (show NF w (W3.setCell ⟨w.heap.size + 1 + 1, 6, none⟩ (.bool y)) _ b _ #[.int .u8 4, .int .u64 (t : Int), .int .u64 0, .int .u64 0, .int .u64 0, .int .u64 0, .bool y, .slice none 0 0, .slice none 0 0] from HM.out.put Hoff.out 6 (.bool y)); have xk := (HN3.out.at 0).trans (show _ = some (Value.int .u8 4) from rfl); clear hm HM HN2))
    | (go_at_call 88; fail))
  generalize W3.setCell ⟨w.heap.size + 1 + 1, 6, none⟩ (.bool y) = Wz at *
  have HG := Lib.hid (FF.nil w Wz)
  have H35 := Lib.hid (fun (W : World) (hR : RegT.Grow Wz.drew W) => HN3.out.keep ((Below.refl Wz.heap.size Wz).drew.trans hR))
  have HL35 := Lib.hid (fun (W : World) (hR : RegT.Grow Wz.drew W) => HG.out.keeps ((Keeps.refl Wz).drew.trans hR.block))
  by_cases hE0 : E = 0
  · subst hE0
    cases mb with
    | true =>
      apply RegT.wp_region_T rfl 120 16 rfl (by kernel_rfl) RegT.Grow RegT.Grow.refl RegT.Grow.trans
      · apply RegT.T_pure rfl rfl rfl
        · intro W hR; clear hR; go_simp; rfl
        simp only [List.set_cons_succ, List.set_cons_zero, Nat.reduceAdd]
        apply RegT.T_const rfl rfl rfl (.int .i64 0) (fun _ _ h => h)
        · intro W hR hf
          have Hc := Lib.hid (refrdone_w _ _ b _ _ _ W (H35.out W hR).rd Hle.out hl)
          rw [HE.out] at Hc
          clear hR hf
          go_simp
          exact RegT.OpOK_enter Hc.out (fun e w' h => ⟨_, h.1, rfl, by rw [← h.2]; exact RegT.Grow.refl _⟩)
        simp only [List.set_cons_succ, List.set_cons_zero, Nat.reduceAdd]
        apply RegT.T_pure (v := .bool false) rfl rfl rfl
        · intro W hR; clear hR; go_simp
        simp only [List.set_cons_succ, List.set_cons_zero, Nat.reduceAdd]
        apply RegT.T_pure (v := .bool false) rfl rfl rfl
        · intro W hR; clear hR; go_simp
        simp only [List.set_cons_succ, List.set_cons_zero, Nat.reduceAdd]
        apply RegT.T_pure rfl rfl rfl
        · exact fun W hR => run_load31 (.tmp 5) rfl rfl (H35.out W hR).x rfl
        simp only [List.set_cons_succ, List.set_cons_zero, Nat.reduceAdd]
        apply RegT.T_const rfl rfl rfl (.bool true) (fun _ _ h => h)
        · intro W hR hf
          have Hc := Lib.hid (HM.out W (HX.out W (HL35.out W hR)))
          clear hR hf
          go_simp
          exact RegT.OpOK_enter Hc.out (fun e w' h => ⟨_, h.1, rfl, h.2⟩)
        simp only [List.set_cons_succ, List.set_cons_zero, Nat.reduceAdd]
        apply RegT.T_pure (v := .bool false) rfl rfl rfl
        · intro W hR; clear hR; go_simp
        simp only [List.set_cons_succ, List.set_cons_zero, Nat.reduceAdd]
        apply RegT.T_pure (v := .bool false) rfl rfl rfl
        · intro W hR; clear hR; go_simp
        simp only [List.set_cons_succ, List.set_cons_zero, Nat.reduceAdd]
        apply RegT.T_pure (v := .bool false) rfl rfl rfl
        · intro W hR; clear hR; go_simp
        simp only [List.set_cons_succ, List.set_cons_zero, Nat.reduceAdd]
        apply RegT.T_pure rfl rfl rfl
        · exact fun W hR => run_load31 (.tmp 5) rfl rfl (H35.out W hR).x rfl
        simp only [List.set_cons_succ, List.set_cons_zero, Nat.reduceAdd]
        apply RegT.T_predC rfl rfl rfl 11 (RdP b) (fun _ _ h => h) (fun y x z hR h => h.keeps hR.block)
        · intro W hR hf
          have Hc := Lib.hid (HBy.out HMb.out HE.out W (HX.out W (HL35.out W hR)))
          clear hR hf
          go_simp
          exact RegT.OpOK_enter Hc.out (fun e w' ⟨⟨p, n, c, he, ho⟩, hB⟩ => ⟨_, he, ⟨p, n, c, rfl, ho.rd⟩, hB⟩)
        intro v10
        simp only [List.set_cons_succ, List.set_cons_zero, Nat.reduceAdd]
        apply RegT.T_const rfl rfl rfl (.string ⟨b.toArray⟩) (fun _ _ h => h)
        · intro W hR hf
          obtain ⟨p1, n1, c1, rfl, hr1⟩ : RdP b v10 W := hf _ (.head _) (by kernel_rfl) (.inr rfl)
          have hc := run_convert_str (P := Try.prog) hr1 29 5 9 Try.underlying29 Try.underlying5 Try.underlying9
          clear hR hf hr1
          go_simp
          exact RegT.OpOK_value ⟨rfl, RegT.Grow.refl _⟩
        simp only [List.set_cons_succ, List.set_cons_zero, Nat.reduceAdd]
        apply RegT.T_pure rfl rfl rfl
        · intro W hR; clear hR; go_simp; rfl
        simp only [List.set_cons_succ, List.set_cons_zero, Nat.reduceAdd]
        apply RegT.T_pure (v := .string ⟨b.toArray⟩) rfl rfl rfl
        · intro W hR
          have hc := run_convert_str (P := Try.prog) (H35.out W hR).bs 29 5 9 Try.underlying29 Try.underlying5 Try.underlying9
          clear hR
          go_simp
        simp only [List.set_cons_succ, List.set_cons_zero, Nat.reduceAdd]
        apply RegT.T_pure (v := .bool false) rfl rfl rfl
        · intro W hR; clear hR; go_simp
        simp only [List.set_cons_succ, List.set_cons_zero, Nat.reduceAdd]
        apply RegT.T_pure (v := .bool false) rfl rfl rfl
        · intro W hR; clear hR; go_simp
        simp only [List.set_cons_succ, List.set_cons_zero, Nat.reduceAdd]
        refine RegT.T_end rfl (fun W5 hR hf => ?_)
        have HNz := Lib.hid (H35.out W5 hR)
        have HLz := Lib.hid (HL35.out W5 hR)
        clear hR hf
        go_wp2_with (first
          | (refine wpList_load31 rfl (.tmp 5) rfl rfl HNz.out.x rfl ?_)
          | (refine wpList_store_rowTo rfl 31 (.tmp 2) (.tmp 119) rfl rfl _ #[.int .u8 4, .int .u64 (t : Int), .int .u64 0, .int .u64 0, .int .u64 0, .int .u64 0, .bool y, .slice none 0 0, .slice none 0 0] rfl rfl 31 zN HNz.out.rz (show _ = some 9 by kernel_rfl) rfl Hrow.out ?_))
        obtain ⟨hend, hres⟩ := HNz.out.end_ #[.int .u8 4, .int .u64 (t : Int), .int .u64 0, .int .u64 0, .int .u64 0, .int .u64 0, .bool y, .slice none 0 0, .slice none 0 0]
        refine bodyPost_ret (v := .tuple #[.agg #[.int .u8 4, .int .u64 (t : Int), .int .u64 0, .int .u64 0, .int .u64 0, .int .u64 0, .bool y, .slice none 0 0, .slice none 0 0], .int .i64 0]) (results_cell_tmp rfl _ _ w.heap.size 31 _ _ _ _ rfl rfl hres rfl Try.underlying31 (show _ = some 9 by kernel_rfl)) rfl ?_
        exact readP_yes (lv := (.slice none 0 0)) (dv := (.slice none 0 0)) (by rw [HE.out, HMb.out]; rfl) (((HX.out _ HLz.out).frame (FF.sameRow _ _ _)).mono fun x _ hx => by have hx' : w.heap.size + 1 + 1 < x := hx; show w.heap.size ≤ x; omega) hend
      · rfl
      · kernel_rfl
    | false =>
      apply RegT.wp_region_T rfl 120 16 rfl (by kernel_rfl) RegT.Grow RegT.Grow.refl RegT.Grow.trans
      · apply RegT.T_pure rfl rfl rfl
        · intro W hR; clear hR; go_simp; rfl
        simp only [List.set_cons_succ, List.set_cons_zero, Nat.reduceAdd]
        apply RegT.T_const rfl rfl rfl (.int .i64 0) (fun _ _ h => h)
        · intro W hR hf
          have Hc := Lib.hid (refrdone_w _ _ b _ _ _ W (H35.out W hR).rd Hle.out hl)
          rw [HE.out] at Hc
          clear hR hf
          go_simp
          exact RegT.OpOK_enter Hc.out (fun e w' h => ⟨_, h.1, rfl, by rw [← h.2]; exact RegT.Grow.refl _⟩)
        simp only [List.set_cons_succ, List.set_cons_zero, Nat.reduceAdd]
        apply RegT.T_pure (v := .bool false) rfl rfl rfl
        · intro W hR; clear hR; go_simp
        simp only [List.set_cons_succ, List.set_cons_zero, Nat.reduceAdd]
        apply RegT.T_pure (v := .bool false) rfl rfl rfl
        · intro W hR; clear hR; go_simp
        simp only [List.set_cons_succ, List.set_cons_zero, Nat.reduceAdd]
        apply RegT.T_pure rfl rfl rfl
        · exact fun W hR => run_load31 (.tmp 5) rfl rfl (H35.out W hR).x rfl
        simp only [List.set_cons_succ, List.set_cons_zero, Nat.reduceAdd]
        apply RegT.T_const rfl rfl rfl (.bool false) (fun _ _ h => h)
        · intro W hR hf
          have Hc := Lib.hid (HM.out W (HX.out W (HL35.out W hR)))
          clear hR hf
          go_simp
          exact RegT.OpOK_enter Hc.out (fun e w' h => ⟨_, h.1, rfl, h.2⟩)
        simp only [List.set_cons_succ, List.set_cons_zero, Nat.reduceAdd]
        apply RegT.T_pure (v := .bool true) rfl rfl rfl
        · intro W hR; clear hR; go_simp
        simp only [List.set_cons_succ, List.set_cons_zero, Nat.reduceAdd]
        apply RegT.T_pure (v := .bool true) rfl rfl rfl
        · intro W hR; clear hR; go_simp
        simp only [List.set_cons_succ, List.set_cons_zero, Nat.reduceAdd]
        apply RegT.T_pure (v := .bool true) rfl rfl rfl
        · intro W hR; clear hR; go_simp
        simp only [List.set_cons_succ, List.set_cons_zero, Nat.reduceAdd]
        apply RegT.T_skip rfl rfl rfl
        simp only [List.set_cons_succ, List.set_cons_zero, Nat.reduceAdd]
        apply RegT.T_skip rfl rfl rfl
        simp only [List.set_cons_succ, List.set_cons_zero, Nat.reduceAdd]
        apply RegT.T_skip rfl rfl rfl
        simp only [List.set_cons_succ, List.set_cons_zero, Nat.reduceAdd]
        apply RegT.T_skip rfl rfl rfl
        simp only [List.set_cons_succ, List.set_cons_zero, Nat.reduceAdd]
        apply RegT.T_skip rfl rfl rfl
        simp only [List.set_cons_succ, List.set_cons_zero, Nat.reduceAdd]
        apply RegT.T_skip rfl rfl rfl
        simp only [List.set_cons_succ, List.set_cons_zero, Nat.reduceAdd]
        apply RegT.T_pure (v := .bool true) rfl rfl rfl
        · intro W hR; clear hR; go_simp
        simp only [List.set_cons_succ, List.set_cons_zero, Nat.reduceAdd]
        refine RegT.T_end rfl (fun W5 hR hf => ?_)
        have HNz := Lib.hid (H35.out W5 hR)
        have HLz := Lib.hid (HL35.out W5 hR)
        clear hR hf
        go_wp2_with (refine wpList_store_rowTo rfl 31 (.tmp 2) (.tmp 118) rfl rfl _ zN rfl rfl 31 zN HNz.out.rz (show _ = some 9 by kernel_rfl) rfl zN_one ?_)
        obtain ⟨hend, hres⟩ := HNz.out.end_ zN
        refine bodyPost_ret (v := .tuple #[.agg zN, .int .i64 5]) (results_cell_tmp rfl _ _ w.heap.size 31 _ _ _ _ rfl rfl hres rfl Try.underlying31 (show _ = some 9 by kernel_rfl)) rfl ?_
        exact readP_no (by rw [HE.out, HMb.out]; rfl) hend
      · rfl
      · kernel_rfl
  · have e0 : (E == 0) = false := by simp [hE0]
    have e1 : (E != 0) = true := by simp [hE0]
    have e2 : decide (E = 0) = false := by simp [hE0]
    apply RegT.wp_region_T rfl 120 16 rfl (by kernel_rfl) RegT.Grow RegT.Grow.refl RegT.Grow.trans
    · apply RegT.T_pure rfl rfl rfl
      · intro W hR; clear hR; go_simp; rfl
      simp only [List.set_cons_succ, List.set_cons_zero, Nat.reduceAdd]
      apply RegT.T_const rfl rfl rfl (.int .i64 E) (fun _ _ h => h)
      · intro W hR hf
        have Hc := Lib.hid (refrdone_w _ _ b _ _ _ W (H35.out W hR).rd Hle.out hl)
        rw [HE.out] at Hc
        clear hR hf
        go_simp
        exact RegT.OpOK_enter Hc.out (fun e w' h => ⟨_, h.1, rfl, by rw [← h.2]; exact RegT.Grow.refl _⟩)
      simp only [List.set_cons_succ, List.set_cons_zero, Nat.reduceAdd]
      apply RegT.T_pure (v := .bool true) rfl rfl rfl
      · intro W hR; clear hR; go_simp
      simp only [List.set_cons_succ, List.set_cons_zero, Nat.reduceAdd]
      apply RegT.T_pure (v := .bool true) rfl rfl rfl
      · intro W hR; clear hR; go_simp
      simp only [List.set_cons_succ, List.set_cons_zero, Nat.reduceAdd]
      apply RegT.T_skip rfl rfl rfl
      simp only [List.set_cons_succ, List.set_cons_zero, Nat.reduceAdd]
      apply RegT.T_skip rfl rfl rfl
      simp only [List.set_cons_succ, List.set_cons_zero, Nat.reduceAdd]
      apply RegT.T_skip rfl rfl rfl
      simp only [List.set_cons_succ, List.set_cons_zero, Nat.reduceAdd]
      apply RegT.T_pure (v := .bool true) rfl rfl rfl
      · intro W hR; clear hR; go_simp
      simp only [List.set_cons_succ, List.set_cons_zero, Nat.reduceAdd]
      apply RegT.T_pure (v := .bool true) rfl rfl rfl
      · intro W hR; clear hR; go_simp
      simp only [List.set_cons_succ, List.set_cons_zero, Nat.reduceAdd]
      apply RegT.T_skip rfl rfl rfl
      simp only [List.set_cons_succ, List.set_cons_zero, Nat.reduceAdd]
      apply RegT.T_skip rfl rfl rfl
      simp only [List.set_cons_succ, List.set_cons_zero, Nat.reduceAdd]
      apply RegT.T_skip rfl rfl rfl
      simp only [List.set_cons_succ, List.set_cons_zero, Nat.reduceAdd]
      apply RegT.T_skip rfl rfl rfl
      simp only [List.set_cons_succ, List.set_cons_zero, Nat.reduceAdd]
      apply RegT.T_skip rfl rfl rfl
      simp only [List.set_cons_succ, List.set_cons_zero, Nat.reduceAdd]
      apply RegT.T_skip rfl rfl rfl
      simp only [List.set_cons_succ, List.set_cons_zero, Nat.reduceAdd]
      apply RegT.T_pure (v := .bool true) rfl rfl rfl
      · intro W hR; clear hR; go_simp
      simp only [List.set_cons_succ, List.set_cons_zero, Nat.reduceAdd]
      refine RegT.T_end rfl (fun W5 hR hf => ?_)
      have HNz := Lib.hid (H35.out W5 hR)
      have HLz := Lib.hid (HL35.out W5 hR)
      clear hR hf
      go_wp2_with (refine wpList_store_rowTo rfl 31 (.tmp 2) (.tmp 118) rfl rfl _ zN rfl rfl 31 zN HNz.out.rz (show _ = some 9 by kernel_rfl) rfl zN_one ?_)
      obtain ⟨hend, hres⟩ := HNz.out.end_ zN
      refine bodyPost_ret (v := .tuple #[.agg zN, .int .i64 5]) (results_cell_tmp rfl _ _ w.heap.size 31 _ _ _ _ rfl rfl hres rfl Try.underlying31 (show _ = some 9 by kernel_rfl)) rfl ?_
      exact readP_no (by rw [HE.out, decide_eq_false hE0]; rfl) hend
    · rfl
    · kernel_rfl

end Go.Proofs.Yteellfgiejnigaa
