/- The law that the form of data is the document's: the walk. -/
import Derived.Test.YtpbdnndpdidagaaS20
namespace Go.Proofs.Ytpbdnndpdidagaa
open Go.ChangeShapes Go.WideShapes Go.ChangeAt Go.RowKit
set_option linter.unusedVariables false

def Empt (base : Nat) (v : Value) (w : World) : Prop := ∃ g, v = .slice (some ⟨g, 0, none⟩) 0 0 ∧ OB w base 5 v []
theorem append_ok {P : Program} {w w' : World} {t : TypeId} {v x v' : Value} {post : Value → World → Prop} {o : Oper} {ρ : Operand → Value} (s y : Operand)
    (ho : o.op = .call { callee := .builtin .append, args := #[s, y], argTypes := #[t, t] }) (hs : ρ s = v) (hy : ρ y = x) (hr : (Builtin.append_ #[t, t] o.type #[v, x]).run P w = .ok v' w') (hp : post v' w') : RegT.OpOK P ((execOp ρ o).run P w) post := by
  unfold execOp
  simp only [ho, resolve, invoke, builtin, Sem.run_bind, Sem.run_pure, Result.andThen_ok, List.map_toArray, List.map_cons, List.map_nil, hs, hy, hr]
  exact hp

/-- What Bytes and Put say of any data. -/
structure Says (s : Sp) (a fb fc : List UInt8) (ec : Int) (qm : Bool) : Prop where
  may : s.mayB = qm
  ways : (qm = true ∧ fb = s.form ∧ fc = a ++ s.form ∧ ec = 0) ∨ (qm = false ∧ fb = [] ∧ fc = a ∧ ec = 2)
theorem Says.mk' (s : Sp) (a : List UInt8) : ∃ fb fc ec qm, Says s a fb fc ec qm := by
  cases hm : s.mayB with
  | true => exact ⟨_, _, _, true, hm, .inl ⟨rfl, rfl, rfl, rfl⟩⟩
  | false => exact ⟨_, _, _, false, hm, .inr ⟨rfl, rfl, rfl, rfl⟩⟩
theorem bytes2_w {s : Sp} {a fb fc : List UInt8} {ec : Int} {qm : Bool} (hs : Says s a fb fc ec qm) (w : World) (h : s.ok) :
    Calls Try.prog 47 #[.agg s.cells] w fun e w' => ∃ p c, e = .returned (.tuple #[.slice p fb.length c, .int .i64 ec]) ∧ RdB w' (.slice p fb.length c) fb ∧ Below w.heap.size w w' := by
  rcases hs.ways with ⟨rfl, rfl, rfl, rfl⟩ | ⟨rfl, rfl, rfl, rfl⟩
  · refine (bytes_w s w h hs.may).mono ?_
    rintro r w1 ⟨p, k, c, rfl, rfl, ho, hB⟩
    exact ⟨p, c, rfl, ho.rd, hB⟩
  · refine (bytes_no_w s w h hs.may).mono ?_
    rintro r w1 ⟨rfl, hB⟩
    exact ⟨none, 0, rfl, (OB.nil w1 0 5).rd, hB⟩
theorem put2_w {s : Sp} {a fb fc : List UInt8} {ec : Int} {qm : Bool} (hs : Says s a fb fc ec qm) (base : Nat) (v : Value) (w : World) (ho : OB w base 5 v a) (h : s.ok) (hl : a.length ≤ 100000) (hb : base ≤ w.heap.size) :
    Calls Try.prog 48 #[v, .agg s.cells] w fun e w' => ∃ v', e = .returned v' ∧ RdB w' v' fc ∧ (Below base w w' ∧ base ≤ w'.heap.size) := by
  rcases hs.ways with ⟨rfl, rfl, rfl, rfl⟩ | ⟨rfl, rfl, rfl, rfl⟩
  · refine (put_w base v a s w ho h hl hb hs.may).mono ?_
    rintro r w1 ⟨p, k, c, rfl, rfl, ho1, hg, hn⟩
    exact ⟨_, rfl, ho1.rd, below_own ho hg hb, Nat.le_trans hb hg.size⟩
  · obtain ⟨p, c, rfl⟩ := ho.form
    refine (put_no_w p _ c s w h hs.may).mono ?_
    rintro r w1 ⟨rfl, hB⟩
    exact ⟨_, rfl, (ho.below hB).rd, hB.mono hb, Nat.le_trans hb hB.size⟩
structure SW (w W : World) (s : Sp) (va vb : Value) (a b : List UInt8) : Prop where
  at_ : SpAt W w.heap.size s
  bel : Below w.heap.size w W
  ra : RdB W va a
  rb : RdB W vb b
theorem SW.next {w W W1 : World} {s : Sp} {va vb : Value} {a b : List UInt8} (h : SW w W s va vb a b) (hB : Below W.heap.size W W1) : SW w W1 s va vb a b :=
  ⟨h.at_.below hB, h.bel.trans (hB.mono h.bel.size), h.ra.below hB, h.rb.below hB⟩

set_option maxRecDepth 100000 in
set_option maxHeartbeats 3200000 in
theorem writes4_w (s : Sp) (va : Value) (a : List UInt8) (w : World) (h : s.ok) (ha : RdB w va a) : Calls Try.prog 10 #[.agg s.cells, va] w fun r w' => r = .returned (.bool true) ∧ Below w.heap.size w w' := by
  obtain ⟨fb, fc, ec, qm, hs⟩ := Says.mk' s a
  have HB0 := Lib.hid ((Below.refl w.heap.size w).alloc (Nat.le_refl _) (.cells s.cells 66))
  have HS0 := Lib.hid (SpAt.new w s)
  have HA0 := Lib.hid (ha.keeps ((Keeps.refl w).alloc (.cells s.cells 66)))
  obtain ⟨pa, ca, rfl, hpa⟩ := ha
  clear hpa
  by_cases hlen : 1000 < a.length
  · have hd : decide (1000 < (a.length : Int)) = true := by simp; omega
    go_enter Try.func10, Try.ntmps10
    go_wp2_with (go_at_call 46; with_reducible refine (known4_w _).mono ?_; rintro r w3 ⟨rfl, hB⟩; have HB := Lib.hid (HB0.out.trans (hB.mono HB0.out.size)); clear hB)
    go_ret
    exact ⟨rfl, HB.out⟩
  · have hd : decide (1000 < (a.length : Int)) = false := by simp; omega
    have hal : a.length ≤ 100000 := by omega
    have Hal := Lib.hid hal
    have Hs := Lib.hid hs
    have Hok := Lib.hid h
    have Hfl := Lib.hid (show s.form.length ≤ 1000 from by rw [← s.formN_form]; have := s.formN_le h 25; omega)
    have HM := Lib.hid (fun W => refmay_w s W h)
    rw [hs.may] at HM
    clear hs h hlen hal
    go_enter Try.func10, Try.ntmps10
    go_wp2_with (first
      | (refine wpList_load_sp rfl (.tmp 2) rfl rfl HS0.out ?_)
      | (go_at_call 47; refine (bytes2_w Hs.out _ Hok.out).mono ?_; rintro r w1 ⟨pb, cb, rfl, hrb, hB⟩; have HI := Lib.hid (show SW w w1 s (.slice pa a.length ca) (.slice pb fb.length cb) a fb from ⟨HS0.out.below hB, HB0.out.trans (hB.mono HB0.out.size), HA0.out.below hB, hrb⟩); clear hrb hB))
    have hB0 : w1.heap.size ≤ w1.drew.heap.size := Nat.le_refl _
    apply RegT.wp_region_T rfl 66 5 rfl (by kernel_rfl) (RegT.Under w1.heap.size) (RegT.Under.refl _) (RegT.Under.trans _)
    · apply RegT.T_predC rfl rfl rfl 2 (Empt w1.heap.size) (RegT.Under.grow _) (fun v x y hR ⟨g, e, h⟩ => ⟨g, e, h.keeps hR.block⟩)
      · intro W hR hf
        have hsz := (hR hB0).2
        clear hf
        go_simp
        exact RegT.OpOK_value ⟨⟨_, rfl, World.ownsRow_lit W #[] 0 hsz (by unfold maxLen; omega) rfl⟩, (Below.refl _ _).alloc (Nat.le_refl _) _⟩
      intro v0
      simp only [List.set_cons_succ, List.set_cons_zero, Nat.reduceAdd]
      iterate 1
        apply RegT.T_pure rfl rfl rfl
        · intro W hR; go_simp; rfl
        simp only [List.set_cons_succ, List.set_cons_zero, Nat.reduceAdd]
      apply RegT.T_predC rfl rfl rfl 4 (fun v w => OB w w1.heap.size 5 v a) (RegT.Under.grow _) (fun v x y hR h => OB.keeps h hR.block)
      · intro W hR hf
        have hsz := (hR hB0).2
        obtain ⟨g, rfl, h1⟩ := hf _ (.head _) (by kernel_rfl) (.inr rfl)
        obtain ⟨v', w', hr, ho', hg⟩ := run_append_fresh (ty := 24) hel h1 ((HI.out.ra.below ((Below.refl _ w1).drew.trans (hR hB0).1)).src) (by have := Hal.out; unfold maxLen; omega) (by have := Hal.out; omega) hsz
        exact append_ok (.tmp 17) (.tmp 18) rfl rfl rfl hr ⟨ho', hg⟩
      intro v2
      simp only [List.set_cons_succ, List.set_cons_zero, Nat.reduceAdd]
      apply RegT.T_pure (v := .agg s.cells) rfl rfl rfl
      · exact fun W hR => load_exec (.tmp 2) rfl rfl (HI.out.at_.below ((Below.refl _ w1).drew.trans (hR hB0).1))
      simp only [List.set_cons_succ, List.set_cons_zero, Nat.reduceAdd]
      apply RegT.T_write rfl rfl rfl none (fun v w => RdB w v fc) (fun v x y hR h => RdB.keeps h hR.block)
      · intro W hR hf
        have hsz := (hR hB0).2
        have h2 := hf _ (.head _) (by kernel_rfl) (.inr rfl)
        have Hc := Lib.hid (put2_w Hs.out w1.heap.size v2 W h2 Hok.out Hal.out hsz)
        clear hf h2
        go_simp
        exact RegT.OpOK_enter Hc.out (fun e w' ⟨v', he, hr, hB⟩ => ⟨_, he, hr, fun _ => hB⟩)
      intro v4
      simp only [List.set_cons_succ, List.set_cons_zero, Nat.reduceAdd]
      refine RegT.T_tail (fun W hR hf => ?_)
      obtain ⟨pc, cc, rfl, hpc⟩ : RdB W v4 fc := hf _ (.head _) (.inl rfl)
      have HC := Lib.hid (show RdB W (.slice pc fc.length cc) fc from hf _ (.head _) (.inl rfl))
      have HI := Lib.hid (HI.out.next ((Below.refl _ w1).drew.trans (hR hB0).1))
      clear hR hf hpc hB0
      simp only [List.drop_succ_cons, List.drop_zero]
      obtain ⟨SA, EA⟩ : ∃ S, Hid ((⟨a.toArray⟩ : ByteArray) = S) := ⟨_, Lib.hid rfl⟩
      rcases Hs.out.ways with ⟨rfl, rfl, hfc, rfl⟩ | ⟨rfl, rfl, rfl, rfl⟩
      · have Hfc := Lib.hid hfc
        clear hfc
        go_wp2_with (first
          | (refine wpList_load_sp rfl (.tmp 2) rfl rfl HI.out.at_ ?_)
          | (go_at_call 49; refine (HM.out _).mono ?_; rintro r w2 ⟨rfl, hB⟩; have HI := Lib.hid (HI.out.next hB); have HC := Lib.hid (HC.out.below hB); clear hB))
        obtain ⟨SF, EF⟩ : ∃ S, Hid ((⟨s.form.toArray⟩ : ByteArray) = S) := ⟨_, Lib.hid rfl⟩
        obtain ⟨SC, EC⟩ : ∃ S, Hid ((⟨fc.toArray⟩ : ByteArray) = S) := ⟨_, Lib.hid rfl⟩
        have c1 : SA ++ SF = SC := by rw [← EA.out, ← EF.out, ← EC.out, Hfc.out]; exact cat_mk _ _
        have z1 : ¬ 9223372036854775807 < SA.size + SF.size := by rw [← EA.out, ← EF.out]; have := Hfl.out; have := Hal.out; simp [ByteArray.size]; omega
        apply RegT.wp_region_T rfl 66 24 rfl (by kernel_rfl) RegT.Grow RegT.Grow.refl RegT.Grow.trans
        · iterate 3
            apply RegT.T_pure rfl rfl rfl
            · intro W hR; go_simp; rfl
            simp only [List.set_cons_succ, List.set_cons_zero, Nat.reduceAdd]
          iterate 1
            apply RegT.T_pure rfl rfl rfl
            · intro W hR; go_simp; rfl
            simp only [List.set_cons_succ, List.set_cons_zero, Nat.reduceAdd]
          apply RegT.T_pure (v := .string SF) rfl rfl rfl
          · intro W hR
            have hs := run_convert_str (P := Try.prog) (HI.out.rb.below ((Below.refl _ w2).drew.trans hR)) 24 5 9 Try.underlying24 Try.underlying5 Try.underlying9
            rw [EF.out] at hs
            clear hR
            go_simp
          simp only [List.set_cons_succ, List.set_cons_zero, Nat.reduceAdd]
          apply RegT.T_pure (v := .agg s.cells) rfl rfl rfl
          · exact fun W hR => load_exec (.tmp 2) rfl rfl (HI.out.at_.below ((Below.refl _ w2).drew.trans hR))
          simp only [List.set_cons_succ, List.set_cons_zero, Nat.reduceAdd]
          apply RegT.T_predC rfl rfl rfl 7 (fun v w => RdB w v s.form) (fun _ _ h => h) (fun v x y hR h => RdB.keeps h hR.block)
          · intro W hR hf
            have Hc := Lib.hid (refform_w s W Hok.out)
            clear hR hf
            go_simp
            exact RegT.OpOK_enter Hc.out (fun e w' ⟨p, k, c, he, hk, ho, hB⟩ => ⟨_, he, ho.rd, hB⟩)
          intro v6
          simp only [List.set_cons_succ, List.set_cons_zero, Nat.reduceAdd]
          apply RegT.T_const rfl rfl rfl (.string SF) (fun _ _ h => h)
          · intro W hR hf
            have h3 := hf _ (.head _) (by kernel_rfl) (.inr rfl)
            have hs := run_convert_str (P := Try.prog) (show RdB W v6 s.form from h3) 24 5 9 Try.underlying24 Try.underlying5 Try.underlying9
            rw [EF.out] at hs
            clear h3 hf hR
            go_simp
            exact RegT.OpOK_value ⟨rfl, RegT.Grow.refl _⟩
          simp only [List.set_cons_succ, List.set_cons_zero, Nat.reduceAdd]
          apply RegT.T_pure (v := .bool true) rfl rfl rfl
          · intro W hR; clear hR; go_simp
          simp only [List.set_cons_succ, List.set_cons_zero, Nat.reduceAdd]
          iterate 3
            apply RegT.T_pure rfl rfl rfl
            · intro W hR; go_simp; rfl
            simp only [List.set_cons_succ, List.set_cons_zero, Nat.reduceAdd]
          apply RegT.T_pure (v := .string SC) rfl rfl rfl
          · intro W hR
            have hs := run_convert_str (P := Try.prog) (HC.out.below ((Below.refl _ w2).drew.trans hR)) 24 5 9 Try.underlying24 Try.underlying5 Try.underlying9
            rw [EC.out] at hs
            clear hR
            go_simp
          simp only [List.set_cons_succ, List.set_cons_zero, Nat.reduceAdd]
          iterate 1
            apply RegT.T_pure rfl rfl rfl
            · intro W hR; go_simp; rfl
            simp only [List.set_cons_succ, List.set_cons_zero, Nat.reduceAdd]
          apply RegT.T_pure (v := .string SA) rfl rfl rfl
          · intro W hR
            have hs := run_convert_str (P := Try.prog) (HI.out.ra.below ((Below.refl _ w2).drew.trans hR)) 24 5 9 Try.underlying24 Try.underlying5 Try.underlying9
            rw [EA.out] at hs
            clear hR
            go_simp
          simp only [List.set_cons_succ, List.set_cons_zero, Nat.reduceAdd]
          apply RegT.T_pure (v := .agg s.cells) rfl rfl rfl
          · exact fun W hR => load_exec (.tmp 2) rfl rfl (HI.out.at_.below ((Below.refl _ w2).drew.trans hR))
          simp only [List.set_cons_succ, List.set_cons_zero, Nat.reduceAdd]
          apply RegT.T_predC rfl rfl rfl 17 (fun v w => RdB w v s.form) (fun _ _ h => h) (fun v x y hR h => RdB.keeps h hR.block)
          · intro W hR hf
            have Hc := Lib.hid (refform_w s W Hok.out)
            clear hR hf
            go_simp
            exact RegT.OpOK_enter Hc.out (fun e w' ⟨p, k, c, he, hk, ho, hB⟩ => ⟨_, he, ho.rd, hB⟩)
          intro v16
          simp only [List.set_cons_succ, List.set_cons_zero, Nat.reduceAdd]
          apply RegT.T_const rfl rfl rfl (.string SF) (fun _ _ h => h)
          · intro W hR hf
            have h3 := hf _ (.head _) (by kernel_rfl) (.inr rfl)
            have hs := run_convert_str (P := Try.prog) (show RdB W v16 s.form from h3) 24 5 9 Try.underlying24 Try.underlying5 Try.underlying9
            rw [EF.out] at hs
            clear h3 hf hR
            go_simp
            exact RegT.OpOK_value ⟨rfl, RegT.Grow.refl _⟩
          simp only [List.set_cons_succ, List.set_cons_zero, Nat.reduceAdd]
          iterate 1
            apply RegT.T_pure rfl rfl rfl
            · intro W hR; go_simp; rfl
            simp only [List.set_cons_succ, List.set_cons_zero, Nat.reduceAdd]
          apply RegT.T_pure (v := .bool true) rfl rfl rfl
          · intro W hR; clear hR; go_simp
          simp only [List.set_cons_succ, List.set_cons_zero, Nat.reduceAdd]
          iterate 2
            apply RegT.T_pure rfl rfl rfl
            · intro W hR; go_simp; rfl
            simp only [List.set_cons_succ, List.set_cons_zero, Nat.reduceAdd]
          apply RegT.T_const rfl rfl rfl (.bool true) (fun _ _ h => h)
          · intro W hR hf
            have Hc := Lib.hid (known4_w W)
            clear hR hf
            go_simp
            exact RegT.OpOK_enter Hc.out (fun e w' h => ⟨_, h.1, rfl, h.2⟩)
          simp only [List.set_cons_succ, List.set_cons_zero, Nat.reduceAdd]
          iterate 1
            apply RegT.T_pure rfl rfl rfl
            · intro W hR; go_simp; rfl
            simp only [List.set_cons_succ, List.set_cons_zero, Nat.reduceAdd]
          refine RegT.T_tail (fun W hR hf => ?_)
          have HI := Lib.hid (HI.out.next ((Below.refl _ w2).drew.trans hR))
          clear hR hf
          simp only [List.drop_succ_cons, List.drop_zero]
          go_wp2
          go_ret
          exact ⟨rfl, HI.out.bel⟩
        · rfl
        · kernel_rfl
      · go_wp2_with (first
          | (refine wpList_load_sp rfl (.tmp 2) rfl rfl HI.out.at_ ?_)
          | (go_at_call 49; refine (HM.out _).mono ?_; rintro r w2 ⟨rfl, hB⟩; have HI := Lib.hid (HI.out.next hB)
             have hca := run_convert_str (P := Try.prog) HI.out.ra 24 5 9 Try.underlying24 Try.underlying5 Try.underlying9
             have hcc := run_convert_str (P := Try.prog) (HC.out.below hB) 24 5 9 Try.underlying24 Try.underlying5 Try.underlying9
             rw [EA.out] at hca hcc
             clear hB)
          | (go_at_call 46; with_reducible refine (known4_w _).mono ?_; rintro r w3 ⟨rfl, hB⟩; have HI := Lib.hid (HI.out.next hB); clear hB))
        go_ret
        exact ⟨rfl, HI.out.bel⟩
    · rfl
    · kernel_rfl
end Go.Proofs.Ytpbdnndpdidagaa
