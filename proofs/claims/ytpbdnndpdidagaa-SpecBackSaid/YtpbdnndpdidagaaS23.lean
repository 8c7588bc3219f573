/- The law SpecBack: the walk. -/
import Derived.Test.YtpbdnndpdidagaaS22
namespace Go.Proofs.Ytpbdnndpdidagaa
open Go.ChangeShapes Go.WideShapes Go.ChangeAt Go.RowKit
set_option linter.unusedVariables false

section
variable {ops : Array Oper} {rest : List Oper} {o : Oper} {a : Act} {w : World} {Q : Exit → Act → World → Prop}
/-- Data held against the same data. -/
theorem wpList_neq66 {s : Sp} (hw : Region.wanted o (yielded ops a.tmps) = true) (x y : Operand) (ho : o.op = .binOp .neq 66 x y 66) (hx : a.eval x = .agg s.cells) (hy : a.eval y = .agg s.cells)
    (k : wpList Try.prog ops Q rest (a.put o.dst (.bool false)) w) : wpList Try.prog ops Q (o :: rest) a w := by
  unfold wpList
  rw [if_pos hw]
  refine .inl ?_
  unfold Oper.wp execOp
  simp only [ho, hx, hy, Sem.run_bind, Sem.run_pure, Result.andThen_ok, guard66, neq66]
  exact k
theorem wpList_eql66 {s : Sp} (hw : Region.wanted o (yielded ops a.tmps) = true) (x y : Operand) (ho : o.op = .binOp .eql 66 x y 66) (hx : a.eval x = .agg s.cells) (hy : a.eval y = .agg s.cells)
    (k : wpList Try.prog ops Q rest (a.put o.dst (.bool true)) w) : wpList Try.prog ops Q (o :: rest) a w := by
  unfold wpList
  rw [if_pos hw]
  refine .inl ?_
  unfold Oper.wp execOp
  simp only [ho, hx, hy, Sem.run_bind, Sem.run_pure, Result.andThen_ok, guard66, eql66]
  exact k
end
/-- New data are laid: at a new block. -/
theorem stored (W1 : World) (t : Sp) : ∃ W2, Hid ((W1.alloc (.cells Sp.zero.cells 66)).setRow W1.heap.size t.cells = W2) ∧ Hid (SpAt W2 W1.heap.size t) ∧ Below W1.heap.size W1 W2 := by
  refine ⟨_, Lib.hid rfl, Lib.hid (setRow_heap _ _ _ _ _ _ (SpAt.new W1 Sp.zero)), ⟨rfl, rfl, rfl, by simp [World.setRow], fun k hk => by rw [setRow_other _ _ _ _ (by omega), Below.heap_alloc W1 _ k hk]⟩⟩

/-- What Read says of bytes. -/
theorem readsay (b : List UInt8) : ∃ (t : Sp) (e : Int) (g : Bool), (Sp.back b).cells = t.cells ∧ Sp.backE b = e ∧ t.ok ∧ ((g = true ∧ e = 0 ∧ t.mayB = true ∧ t.form = b) ∨ (g = false ∧ e = 5 ∧ t = Sp.zero)) := by
  refine ⟨Sp.back b, Sp.backE b, Sp.goodB b, rfl, rfl, Sp.back_ok b, ?_⟩
  cases hg : Sp.goodB b with
  | true =>
    have h := Sp.good_form b hg
    have e : Sp.back b = Sp.taken b 0 0 := by unfold Sp.back; rw [hg]; rfl
    exact .inl ⟨rfl, by unfold Sp.backE; rw [hg]; rfl, by rw [e]; exact h.2, by rw [e]; exact h.1⟩
  | false => exact .inr ⟨rfl, by unfold Sp.backE; rw [hg]; rfl, by unfold Sp.back; rw [hg]; rfl⟩
theorem built66 : Try.prog.built 66 [] = some Sp.zero.cells := by kernel_rfl

structure SB (w W : World) (s : Sp) (va : Value) (a : List UInt8) : Prop where
  at_ : SpAt W w.heap.size s
  bel : Below w.heap.size w W
  ra : RdB W va a
theorem SB.next {w W W1 : World} {s : Sp} {va : Value} {a : List UInt8} (h : SB w W s va a) (hB : Below W.heap.size W W1) : SB w W1 s va a :=
  ⟨h.at_.below hB, h.bel.trans (hB.mono h.bel.size), h.ra.below hB⟩

set_option maxRecDepth 100000 in
set_option maxHeartbeats 3200000 in
theorem back4_w (s : Sp) (va : Value) (b : List UInt8) (w : World) (h : s.ok) (ha : RdB w va b) : Calls Try.prog 11 #[.agg s.cells, va] w fun r w' => r = .returned (.bool true) ∧ Below w.heap.size w w' := by
  obtain ⟨fb, fc, ec, qm, hs⟩ := Says.mk' s []
  have HI := Lib.hid (show SB w (w.alloc (.cells s.cells 66)) s va b from ⟨SpAt.new w s, (Below.refl w.heap.size w).alloc (Nat.le_refl _) _, ha.keeps ((Keeps.refl w).alloc (.cells s.cells 66))⟩)
  obtain ⟨pa, ca, rfl, hpa⟩ := ha
  clear hpa
  by_cases hlen : 1000 < b.length
  · have hd : decide (1000 < (b.length : Int)) = true := by simp; omega
    clear hs
    go_enter Try.func11, Try.ntmps11
    go_wp2_with (go_at_call 46; with_reducible refine (known4_w _).mono ?_; rintro r w3 ⟨rfl, hB⟩; have HI := Lib.hid (HI.out.next hB); clear hB)
    go_ret
    exact ⟨rfl, HI.out.bel⟩
  · have hd : decide (1000 < (b.length : Int)) = false := by simp; omega
    obtain ⟨t, et, gd, ht1, ht2, htok, hways⟩ := readsay b
    have HR := Lib.hid (fun (W : World) (hr : RdB W (.slice pa b.length ca) b) => by have := read_w _ b W hr (by omega); rw [ht1, ht2] at this; exact this)
    have Hs := Lib.hid hs
    have Hok := Lib.hid h
    have Htok := Lib.hid htok
    have HM := Lib.hid (fun W => may_w s W h)
    rw [hs.may] at HM
    have hsw := hs.ways
    have HMay := Lib.hid hs.may
    have hfl : s.form.length ≤ 1000 := by rw [← s.formN_form]; have := s.formN_le h 25; omega
    have HMay := Lib.hid hs.may
    have hfl : s.form.length ≤ 1000 := by rw [← s.formN_form]; have := s.formN_le h 25; omega
    have HMay := Lib.hid hs.may
    have hfl : s.form.length ≤ 1000 := by rw [← s.formN_form]; have := s.formN_le h 25; omega
    have HMay := Lib.hid hs.may
    have hfl : s.form.length ≤ 1000 := by rw [← s.formN_form]; have := s.formN_le h 25; omega
    clear hs ht1 ht2 htok hlen
    rcases hsw with ⟨rfl, rfl, rfl, rfl⟩ | ⟨rfl, rfl, rfl, rfl⟩
    · have hbf := Sp.back_form s h HMay.out
      have HRf := Lib.hid (fun (W : World) (v : Value) (hr : RdB W v s.form) => by have := read_w v s.form W hr (by omega); rw [hbf.1, hbf.2] at this; exact this)
      obtain ⟨u, hu⟩ : ∃ u, Sp.back (s.form ++ [UInt8.ofNat 0]) = u := ⟨_, rfl⟩
      have HRl := Lib.hid (fun (W : World) (v : Value) (hr : RdB W v (s.form ++ [UInt8.ofNat 0])) => by have := read_w v (s.form ++ [UInt8.ofNat 0]) W hr (by simp; omega); rw [hu, Sp.back_longer s _ h HMay.out] at this; exact this)
      have Hlen := Lib.hid hfl
      clear h hbf hu hfl
      rcases hways with ⟨rfl, rfl, htm, htf⟩ | ⟨rfl, rfl, rfl⟩
      · have Htm := Lib.hid htm
        have Htf := Lib.hid htf
        obtain ⟨SA, EA⟩ : ∃ S, Hid ((⟨b.toArray⟩ : ByteArray) = S) := ⟨_, Lib.hid rfl⟩
        clear htm htf
        go_enter Try.func11, Try.ntmps11
        go_wp2_with (first
          | (refine wpList_load_sp rfl (.tmp 2) rfl rfl HI.out.at_ ?_)
          | (refine wpList_load_sp rfl (.tmp 7) rfl rfl H7.out ?_)
          | (refine wpList_load_sp rfl (.tmp 11) rfl rfl HT.out ?_)
          | (refine wpList_neq66 (s := s) rfl (.tmp 48) (.tmp 49) rfl rfl rfl ?_)
          | (refine wpList_alloc_zero rfl 66 rfl _ hz66 ?_)
          | (go_at_call 47; first | (with_reducible refine (bytes2_w Hs.out _ Hok.out).mono ?_; rintro r w1 ⟨pb, cb, rfl, hrb, hB⟩; have HI := Lib.hid (HI.out.next hB); have HC := Lib.hid hrb; clear hrb hB) | (with_reducible refine (bytes_w t _ Htok.out Htm.out).mono ?_; rintro r w1 ⟨pb2, kb2, cb2, rfl, hk, ho, hB⟩; rw [Htf.out] at ho; have HI := Lib.hid (HI.out.next hB); have hca := run_convert_str (P := Try.prog) HI.out.ra 24 5 9 Try.underlying24 Try.underlying5 Try.underlying9; have hcb := run_convert_str (P := Try.prog) ho.rd 24 5 9 Try.underlying24 Try.underlying5 Try.underlying9; rw [EA.out] at hca hcb; clear hk ho hB))
          | (go_at_call 51; with_reducible refine (HM.out _).mono ?_; rintro r w2 ⟨rfl, hB⟩; have HI := Lib.hid (HI.out.next hB); have HC := Lib.hid (HC.out.below hB); clear hB)
          | (refine wpList_store_rowTo rfl 66 (.tmp 11) (.tmp 59) rfl rfl _ t.cells rfl rfl 66 Sp.zero.cells HN.out (show _ = some 25 by kernel_rfl) rfl (cells_one _) ?_; rw [HW.out]; have HI := HI2)
          | (refine wpList_store_rowTo rfl 66 (.tmp 7) (.tmp 34) rfl rfl _ s.cells rfl rfl 66 Sp.zero.cells HN1.out (show _ = some 25 by kernel_rfl) rfl (cells_one _) ?_; rw [HW1.out]; have HI := HI2)
          | (refine wpList_store_rowTo rfl 66 (.tmp 9) (.tmp 43) rfl rfl _ u.cells rfl rfl 66 Sp.zero.cells HN2.out (show _ = some 25 by kernel_rfl) rfl (cells_one _) ?_; rw [HW2.out]; have HI := HI2; have H7 := H72)
          | (refine wpList_append_bytes rfl (.tmp 37) (.tmp 38) 24 rfl hel rfl HE.out rfl HC.out (by have := Hlen.out; simp; omega) (by simp) ?_; intro p5 n5 c5 w5 hn5 ho5 hg5; have hB5 := ((Below.refl W5.heap.size W5).alloc (Nat.le_refl _) _).trans (below_own HE.out hg5 (by simp)); have hsz5 := hB5.size; have Hn5 := Lib.hid hn5; have HO5 := Lib.hid (ho5.alloc (.cells #[.int .u8 ((0 : Nat) : Int)] 5)); have Hone := Lib.hid (RdB_one w5 5 0 (by decide)); have HB5 := Lib.hid (hB5.trans ((Below.refl w5.heap.size w5).alloc (Nat.le_refl _) (.cells #[.int .u8 ((0 : Nat) : Int)] 5) |>.mono hsz5)); clear hn5 ho5 hg5 hB5)
          | (refine wpList_append_bytes rfl (.tmp 39) (.tmp 40) 24 rfl hel rfl HO5.out rfl Hone.out (by have := Hlen.out; simp; omega) (by simp; omega) ?_; intro p6 n6 c6 w6 hn6 ho6 hg6; have hB6 := HB5.out.trans (below_own HO5.out hg6 (by simp; omega)); have HI := Lib.hid (HI.out.next hB6); have H7 := Lib.hid (H7.out.below hB6); have HL := Lib.hid ho6.rd; clear hn6 ho6 hg6 hB6)
          | (go_at_call 52; first | (with_reducible refine (HRf.out _ _ HC.out).mono ?_; rintro r w4 ⟨rfl, hB⟩; have HI := Lib.hid (HI.out.next hB); have HN1 := Lib.hid (SpAt.new w4 Sp.zero); obtain ⟨W5, HW1, H7, hB4⟩ := stored w4 s; have HI2 := Lib.hid (HI.out.next hB4); have HC := Lib.hid (((HC.out.below hB).below hB4).keeps ((Keeps.refl W5).alloc (.cells #[] 5))); have HE := Lib.hid (OB.new W5 5); clear hB hB4) | (with_reducible refine (HRl.out _ _ HL.out).mono ?_; rintro r w7 ⟨rfl, hB⟩; have HI := Lib.hid (HI.out.next hB); have HN2 := Lib.hid (SpAt.new w7 Sp.zero); obtain ⟨W8, HW2, H9, hB4⟩ := stored w7 u; have HI2 := Lib.hid (HI.out.next hB4); have H72 := Lib.hid ((H7.out.below hB).below hB4); clear hB hB4) | (with_reducible refine (HR.out _ HI.out.ra).mono ?_; rintro r w3 ⟨rfl, hB⟩; have HI := Lib.hid (HI.out.next hB); have HN := Lib.hid (SpAt.new w3 Sp.zero); obtain ⟨W4, HW, HT, hB4⟩ := stored w3 t; have HI2 := Lib.hid (HI.out.next hB4); clear hB hB4))
          | (go_at_call 46; with_reducible refine (known4_w _).mono ?_; rintro r w3 ⟨rfl, hB⟩; have HI := Lib.hid (HI.out.next hB); clear hB))
        go_ret
        exact ⟨rfl, HI.out.bel⟩
      · go_enter Try.func11, Try.ntmps11
        go_wp2_with (first
          | (refine wpList_load_sp rfl (.tmp 2) rfl rfl HI.out.at_ ?_)
          | (refine wpList_load_sp rfl (.tmp 7) rfl rfl H7.out ?_)
          | (refine wpList_load_sp rfl (.tmp 11) rfl rfl HT.out ?_)
          | (refine wpList_neq66 (s := s) rfl (.tmp 48) (.tmp 49) rfl rfl rfl ?_)
          | (refine wpList_buildTo rfl 66 _ rfl (some 64) rfl Sp.zero.cells (Eq.trans (b := Try.prog.built 66 []) (by kernel_rfl) built66) ?_)
          | (refine wpList_eql66 (s := Sp.zero) rfl (.tmp 63) (.tmp 64) rfl rfl rfl ?_)
          | (refine wpList_alloc_zero rfl 66 rfl _ hz66 ?_)
          | (go_at_call 47; with_reducible refine (bytes2_w Hs.out _ Hok.out).mono ?_; rintro r w1 ⟨pb, cb, rfl, hrb, hB⟩; have HI := Lib.hid (HI.out.next hB); have HC := Lib.hid hrb; clear hrb hB)
          | (go_at_call 51; with_reducible refine (HM.out _).mono ?_; rintro r w2 ⟨rfl, hB⟩; have HI := Lib.hid (HI.out.next hB); have HC := Lib.hid (HC.out.below hB); clear hB)
          | (refine wpList_store_rowTo rfl 66 (.tmp 11) (.tmp 59) rfl rfl _ Sp.zero.cells rfl rfl 66 Sp.zero.cells HN.out (show _ = some 25 by kernel_rfl) rfl (cells_one _) ?_; rw [HW.out]; have HI := HI2)
          | (refine wpList_store_rowTo rfl 66 (.tmp 7) (.tmp 34) rfl rfl _ s.cells rfl rfl 66 Sp.zero.cells HN1.out (show _ = some 25 by kernel_rfl) rfl (cells_one _) ?_; rw [HW1.out]; have HI := HI2)
          | (refine wpList_store_rowTo rfl 66 (.tmp 9) (.tmp 43) rfl rfl _ u.cells rfl rfl 66 Sp.zero.cells HN2.out (show _ = some 25 by kernel_rfl) rfl (cells_one _) ?_; rw [HW2.out]; have HI := HI2; have H7 := H72)
          | (refine wpList_append_bytes rfl (.tmp 37) (.tmp 38) 24 rfl hel rfl HE.out rfl HC.out (by have := Hlen.out; simp; omega) (by simp) ?_; intro p5 n5 c5 w5 hn5 ho5 hg5; have hB5 := ((Below.refl W5.heap.size W5).alloc (Nat.le_refl _) _).trans (below_own HE.out hg5 (by simp)); have hsz5 := hB5.size; have Hn5 := Lib.hid hn5; have HO5 := Lib.hid (ho5.alloc (.cells #[.int .u8 ((0 : Nat) : Int)] 5)); have Hone := Lib.hid (RdB_one w5 5 0 (by decide)); have HB5 := Lib.hid (hB5.trans ((Below.refl w5.heap.size w5).alloc (Nat.le_refl _) (.cells #[.int .u8 ((0 : Nat) : Int)] 5) |>.mono hsz5)); clear hn5 ho5 hg5 hB5)
          | (refine wpList_append_bytes rfl (.tmp 39) (.tmp 40) 24 rfl hel rfl HO5.out rfl Hone.out (by have := Hlen.out; simp; omega) (by simp; omega) ?_; intro p6 n6 c6 w6 hn6 ho6 hg6; have hB6 := HB5.out.trans (below_own HO5.out hg6 (by simp; omega)); have HI := Lib.hid (HI.out.next hB6); have H7 := Lib.hid (H7.out.below hB6); have HL := Lib.hid ho6.rd; clear hn6 ho6 hg6 hB6)
          | (go_at_call 52; first | (with_reducible refine (HRf.out _ _ HC.out).mono ?_; rintro r w4 ⟨rfl, hB⟩; have HI := Lib.hid (HI.out.next hB); have HN1 := Lib.hid (SpAt.new w4 Sp.zero); obtain ⟨W5, HW1, H7, hB4⟩ := stored w4 s; have HI2 := Lib.hid (HI.out.next hB4); have HC := Lib.hid (((HC.out.below hB).below hB4).keeps ((Keeps.refl W5).alloc (.cells #[] 5))); have HE := Lib.hid (OB.new W5 5); clear hB hB4) | (with_reducible refine (HRl.out _ _ HL.out).mono ?_; rintro r w7 ⟨rfl, hB⟩; have HI := Lib.hid (HI.out.next hB); have HN2 := Lib.hid (SpAt.new w7 Sp.zero); obtain ⟨W8, HW2, H9, hB4⟩ := stored w7 u; have HI2 := Lib.hid (HI.out.next hB4); have H72 := Lib.hid ((H7.out.below hB).below hB4); clear hB hB4) | (with_reducible refine (HR.out _ HI.out.ra).mono ?_; rintro r w3 ⟨rfl, hB⟩; have HI := Lib.hid (HI.out.next hB); have HN := Lib.hid (SpAt.new w3 Sp.zero); obtain ⟨W4, HW, HT, hB4⟩ := stored w3 Sp.zero; have HI2 := Lib.hid (HI.out.next hB4); clear hB hB4))
          | (go_at_call 46; with_reducible refine (known4_w _).mono ?_; rintro r w3 ⟨rfl, hB⟩; have HI := Lib.hid (HI.out.next hB); clear hB))
        go_ret
        exact ⟨rfl, HI.out.bel⟩
    · clear h hfl
      rcases hways with ⟨rfl, rfl, htm, htf⟩ | ⟨rfl, rfl, rfl⟩
      · have Htm := Lib.hid htm
        have Htf := Lib.hid htf
        obtain ⟨SA, EA⟩ : ∃ S, Hid ((⟨b.toArray⟩ : ByteArray) = S) := ⟨_, Lib.hid rfl⟩
        clear htm htf
        go_enter Try.func11, Try.ntmps11
        go_wp2_with (first
          | (refine wpList_load_sp rfl (.tmp 2) rfl rfl HI.out.at_ ?_)
          | (refine wpList_load_sp rfl (.tmp 11) rfl rfl HT.out ?_)
          | (refine wpList_alloc_zero rfl 66 rfl _ hz66 ?_)
          | (go_at_call 47; first | (with_reducible refine (bytes2_w Hs.out _ Hok.out).mono ?_; rintro r w1 ⟨pb, cb, rfl, hrb, hB⟩; have HI := Lib.hid (HI.out.next hB); clear hrb hB) | (with_reducible refine (bytes_w t _ Htok.out Htm.out).mono ?_; rintro r w1 ⟨pb2, kb2, cb2, rfl, hk, ho, hB⟩; rw [Htf.out] at ho; have HI := Lib.hid (HI.out.next hB); have hca := run_convert_str (P := Try.prog) HI.out.ra 24 5 9 Try.underlying24 Try.underlying5 Try.underlying9; have hcb := run_convert_str (P := Try.prog) ho.rd 24 5 9 Try.underlying24 Try.underlying5 Try.underlying9; rw [EA.out] at hca hcb; clear hk ho hB))
          | (go_at_call 51; with_reducible refine (HM.out _).mono ?_; rintro r w2 ⟨rfl, hB⟩; have HI := Lib.hid (HI.out.next hB); clear hB)
          | (refine wpList_store_rowTo rfl 66 (.tmp 11) (.tmp 59) rfl rfl _ t.cells rfl rfl 66 Sp.zero.cells HN.out (show _ = some 25 by kernel_rfl) rfl (cells_one _) ?_; rw [HW.out]; have HI := HI2)
          | (go_at_call 52; with_reducible refine (HR.out _ HI.out.ra).mono ?_; rintro r w3 ⟨rfl, hB⟩; have HI := Lib.hid (HI.out.next hB); have HN := Lib.hid (SpAt.new w3 Sp.zero); obtain ⟨W4, HW, HT, hB4⟩ := stored w3 t; have HI2 := Lib.hid (HI.out.next hB4); clear hB hB4)
          | (go_at_call 46; with_reducible refine (known4_w _).mono ?_; rintro r w3 ⟨rfl, hB⟩; have HI := Lib.hid (HI.out.next hB); clear hB))
        go_ret
        exact ⟨rfl, HI.out.bel⟩
      · go_enter Try.func11, Try.ntmps11
        go_wp2_with (first
          | (refine wpList_load_sp rfl (.tmp 2) rfl rfl HI.out.at_ ?_)
          | (refine wpList_load_sp rfl (.tmp 11) rfl rfl HT.out ?_)
          | (refine wpList_buildTo rfl 66 _ rfl (some 64) rfl Sp.zero.cells (Eq.trans (b := Try.prog.built 66 []) (by kernel_rfl) built66) ?_)
          | (refine wpList_eql66 (s := Sp.zero) rfl (.tmp 63) (.tmp 64) rfl rfl rfl ?_)
          | (refine wpList_alloc_zero rfl 66 rfl _ hz66 ?_)
          | (go_at_call 47; with_reducible refine (bytes2_w Hs.out _ Hok.out).mono ?_; rintro r w1 ⟨pb, cb, rfl, hrb, hB⟩; have HI := Lib.hid (HI.out.next hB); clear hrb hB)
          | (go_at_call 51; with_reducible refine (HM.out _).mono ?_; rintro r w2 ⟨rfl, hB⟩; have HI := Lib.hid (HI.out.next hB); clear hB)
          | (refine wpList_store_rowTo rfl 66 (.tmp 11) (.tmp 59) rfl rfl _ Sp.zero.cells rfl rfl 66 Sp.zero.cells HN.out (show _ = some 25 by kernel_rfl) rfl (cells_one _) ?_; rw [HW.out]; have HI := HI2)
          | (go_at_call 52; with_reducible refine (HR.out _ HI.out.ra).mono ?_; rintro r w3 ⟨rfl, hB⟩; have HI := Lib.hid (HI.out.next hB); have HN := Lib.hid (SpAt.new w3 Sp.zero); obtain ⟨W4, HW, HT, hB4⟩ := stored w3 Sp.zero; have HI2 := Lib.hid (HI.out.next hB4); clear hB hB4)
          | (go_at_call 46; with_reducible refine (known4_w _).mono ?_; rintro r w3 ⟨rfl, hB⟩; have HI := Lib.hid (HI.out.next hB); clear hB))
        go_ret
        exact ⟨rfl, HI.out.bel⟩
end Go.Proofs.Ytpbdnndpdidagaa
