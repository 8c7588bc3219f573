/- Walk of the law WireWrites. -/
import Derived.Test.YtpbdnndpdidagaaW9
namespace Go.Proofs.Ytpbdnndpdidagaa
open Go.ChangeShapes Go.WideShapes Go.ChangeAt Go.RowKit
set_option linter.unusedVariables false

theorem ownsRow_mono_base {w : World} {B base : Nat} {e : TypeId} {v : Value} {l : List UInt8} (h : OB w base e v l) (hB : B ≤ base) : OB w B e v l := by
  refine ⟨h.1, ?_⟩
  rcases h.2 with h2 | ⟨g, cap, cur, hv, hg, r⟩
  · exact .inl h2
  · exact .inr ⟨g, cap, cur, hv, Nat.le_trans hB hg, r⟩

set_option maxRecDepth 100000 in
theorem own_w (B : Nat) (v : Value) (l : List UInt8) (w : World) (hc : w.cell? ⟨B, 0, none⟩ = some v) (h : RdB w v l) (hl : l.length ≤ 1000000) :
    Calls Try.prog 22 #[.pointer (some ⟨B, 0, none⟩)] w fun e w' => ∃ p k c, e = .returned (.slice p k c) ∧ OB w' w.heap.size 5 (.slice p k c) l ∧ k = l.length ∧ Below w.heap.size w w' := by
  have H := Lib.hid h
  obtain ⟨p, c, rfl, hp⟩ := h
  have H1 := Lib.hid (OB.new w 5)
  have H2 := Lib.hid (H.out.keeps ((Keeps.refl w).alloc (.cells #[] 5)))
  have hc2 := ((Keeps.refl w).alloc (.cells #[] 5)).cell hc
  clear hp hc
  go_enter Try.func22, Try.ntmps22
  go_wp2_with (refine wpList_append_bytes rfl (.tmp 2) (.tmp 3) 24 rfl hel rfl H1.out rfl H2.out (by simp; omega) (by simp) ?_; intro p1 n1 c1 w1 hn1 ho1 hg1; have Hn1 := Lib.hid hn1; have Ho1 := Lib.hid ho1; have HB1 := Lib.hid (((Below.refl w.heap.size w).alloc (Nat.le_refl _) _).trans (below_own H1.out hg1 (by simp))); clear hn1 ho1 hg1)
  go_ret
  exact ⟨p1, n1, c1, rfl, Ho1.out, Hn1.out, HB1.out⟩

theorem cat_mk (a b : List UInt8) : (⟨a.toArray⟩ : ByteArray) ++ (⟨b.toArray⟩ : ByteArray) = ⟨(a ++ b).toArray⟩ := ByteArray.mk_append_mk ..
set_option maxRecDepth 100000 in
set_option maxHeartbeats 4000000 in
theorem writes_in_w (n : Nat) (i : Int) (f : Bool) (va vt : Value) (b t : List UInt8) (w : World) (hn : n < 2 ^ 64) (hi : -9223372036854775808 ≤ i ∧ i ≤ 9223372036854775807) (hb : RdB w va b) (ht : RdB w vt t) (hbl : b.length ≤ 100000) (htl : t.length ≤ 100000) :
    Calls Try.prog 5 #[.int .u64 (n : Int), .int .i64 i, .bool f, va, vt] w fun e w' => e = .returned (.bool true) ∧ Below w.heap.size w w' := by
  have Hb := Lib.hid hb
  have Ht := Lib.hid ht
  obtain ⟨pb, cb, rfl, hpb⟩ := hb
  obtain ⟨pt, ct, rfl, hpt⟩ := ht
  have Hn := Lib.hid hn
  have Hi := Lib.hid hi
  have L1 := Form.nat_len10 hn
  have L2 := Form.nat_len10 (Form.fold_lt hi.1 hi.2)
  have L4 : (Form.text t).length ≤ 100010 := by unfold Form.text; rw [List.length_append]; have := Form.nat_len10 (n := t.length) (by omega); omega
  clear hpb hpt hn hi
  obtain ⟨sb, Esb⟩ : ∃ S, Hid ((⟨b.toArray⟩ : ByteArray) = S) := ⟨_, Lib.hid rfl⟩
  obtain ⟨F1, EF1⟩ : ∃ S, Hid ((⟨(Form.nat n).toArray⟩ : ByteArray) = S) := ⟨_, Lib.hid rfl⟩
  obtain ⟨F2, EF2⟩ : ∃ S, Hid ((⟨(Form.nat (Form.fold i)).toArray⟩ : ByteArray) = S) := ⟨_, Lib.hid rfl⟩
  obtain ⟨F3, EF3⟩ : ∃ S, Hid ((⟨(Form.flag f).toArray⟩ : ByteArray) = S) := ⟨_, Lib.hid rfl⟩
  obtain ⟨F4, EF4⟩ : ∃ S, Hid ((⟨(Form.text t).toArray⟩ : ByteArray) = S) := ⟨_, Lib.hid rfl⟩
  obtain ⟨S1, ES1⟩ : ∃ S, Hid ((⟨(b ++ Form.nat n).toArray⟩ : ByteArray) = S) := ⟨_, Lib.hid rfl⟩
  obtain ⟨S2, ES2⟩ : ∃ S, Hid ((⟨(b ++ Form.nat (Form.fold i)).toArray⟩ : ByteArray) = S) := ⟨_, Lib.hid rfl⟩
  obtain ⟨S3, ES3⟩ : ∃ S, Hid ((⟨(b ++ Form.flag f).toArray⟩ : ByteArray) = S) := ⟨_, Lib.hid rfl⟩
  obtain ⟨S4, ES4⟩ : ∃ S, Hid ((⟨(b ++ Form.text t).toArray⟩ : ByteArray) = S) := ⟨_, Lib.hid rfl⟩
  have c1 : sb ++ F1 = S1 := by rw [← Esb.out, ← EF1.out, ← ES1.out]; exact cat_mk _ _
  have c2 : sb ++ F2 = S2 := by rw [← Esb.out, ← EF2.out, ← ES2.out]; exact cat_mk _ _
  have c3 : sb ++ F3 = S3 := by rw [← Esb.out, ← EF3.out, ← ES3.out]; exact cat_mk _ _
  have c4 : sb ++ F4 = S4 := by rw [← Esb.out, ← EF4.out, ← ES4.out]; exact cat_mk _ _
  have z1 : ¬ 9223372036854775807 < sb.size + F1.size := by rw [← Esb.out, ← EF1.out]; simp [ByteArray.size]; omega
  have z2 : ¬ 9223372036854775807 < sb.size + F2.size := by rw [← Esb.out, ← EF2.out]; simp [ByteArray.size]; omega
  have z3 : ¬ 9223372036854775807 < sb.size + F3.size := by rw [← Esb.out, ← EF3.out]; simp [ByteArray.size, Form.flag]; omega
  have z4 : ¬ 9223372036854775807 < sb.size + F4.size := by rw [← Esb.out, ← EF4.out]; simp [ByteArray.size]; omega
  have hd1 : decide (100000 < (b.length : Int)) = false := by simp; omega
  have hd2 : decide (100000 < (t.length : Int)) = false := by simp; omega
  go_enter Try.func5, Try.ntmps5
  have hk0 : Keeps w (w.alloc (.cells #[.slice pb b.length cb] 24)) := (Keeps.refl w).alloc _
  have hbox : (w.alloc (.cells #[.slice pb b.length cb] 24)).cell? ⟨w.heap.size, 0, none⟩ = some (.slice pb b.length cb) := by rw [cell_of_row _ _ _ _ _ _ (heap_alloc_new w _)]; rfl
  have Hl := Lib.hid (lent_w _ t _ (Ht.out.keeps hk0) (by omega))
  have Hb1 := Lib.hid (Hb.out.keeps hk0)
  clear hk0
  have Hbox := Lib.hid hbox
  go_wp2_with (go_at_call 21; with_reducible refine (Hl.out).mono ?_; rintro e w1 ⟨v', rfl, hm, hB⟩; have Hm := Lib.hid hm; have HB := Lib.hid hB; have hbx := hB.cell (p := ⟨w.heap.size, 0, none⟩) (by simp); rw [Hbox.out] at hbx; have hbs := run_convert_str (P := Try.prog) (Hb1.out.below hB) 24 5 9 Try.underlying24 Try.underlying5 Try.underlying9; rw [Esb.out] at hbs; clear hm hB)
  have HM := Lib.hid (Hm.out.rd)
  have HBb := Lib.hid (Hb1.out.below HB.out)
  have HBt := Lib.hid ((Ht.out.keeps ((Keeps.refl w).alloc (.cells #[.slice pb b.length cb] 24))).below HB.out)
  have hbl1 : w.heap.size < w1.heap.size := by have := HB.out.size; simp at this; omega
  have hw0 : w.heap.size ≤ w1.heap.size := Nat.le_of_lt hbl1
  have HB00 := Lib.hid (((Below.refl w.heap.size w).alloc (Nat.le_refl _) (.cells #[.slice pb b.length cb] 24)).trans (HB.out.mono (by simp)))
  have Hbx := Lib.hid hbx
  have hB0 : w1.heap.size ≤ w1.drew.heap.size := Nat.le_refl _
  clear hbx hbs hbox
  apply RegT.wp_region_T rfl 86 58 rfl (by kernel_rfl) (RegT.Under w1.heap.size) (RegT.Under.refl _) (RegT.Under.trans _)
  · iterate 1
      apply RegT.T_pure rfl rfl rfl
      · intro W hR; go_simp; rfl
      simp only [List.set_cons_succ, List.set_cons_zero, Nat.reduceAdd]
    apply RegT.T_predC rfl rfl rfl 3 (fun v w => OB w w1.heap.size 5 v b) (RegT.Under.grow _) (fun v x y hR h => OB.keeps h hR.block)
    · intro W hR _
      have hB1 := (hR hB0).1
      have hbW := hB1.cell (p := ⟨w.heap.size, 0, none⟩) hbl1
      have Hc := Lib.hid (own_w w.heap.size (.slice pb b.length cb) b W (hbW.trans Hbx.out) (HBb.out.keeps (fun k hk => hB1.block k hk)) (by omega))
      have hsz := (hR hB0).2
      clear hbW hB1
      go_simp
      exact RegT.OpOK_enter Hc.out (fun e w' ⟨p, k, c, he, ho, hk, hB⟩ => ⟨_, he, by subst hk; exact ownsRow_mono_base ho hsz, hB⟩)
    intro v1
    simp only [List.set_cons_succ, List.set_cons_zero, Nat.reduceAdd]
    iterate 1
      apply RegT.T_pure rfl rfl rfl
      · intro W hR; go_simp; rfl
      simp only [List.set_cons_succ, List.set_cons_zero, Nat.reduceAdd]
    apply RegT.T_write rfl rfl rfl (some 4) (fun v w => RdB w v (b ++ Form.nat n)) (fun v x y hR h => RdB.keeps h hR.block)
    · intro W hR hf
      have h1 := hf _ (.head _) (by kernel_rfl) (.inr rfl)
      have hB1 := (hR hB0).1
      have hsz := (hR hB0).2
      have Hc := Lib.hid (nat_w w1.heap.size v1 b n W h1 Hn.out (by omega) hsz)
      clear h1 hf hB1
      go_simp
      exact RegT.OpOK_enter Hc.out (fun e w' ⟨p, k, c, he, hk, ho, hB⟩ => ⟨_, he, by subst hk; exact ho.rd, fun _ => ⟨hB, Nat.le_trans hsz hB.size⟩⟩)
    intro v3
    simp only [List.set_cons_succ, List.set_cons_zero, Nat.reduceAdd]
    apply RegT.T_const rfl rfl rfl (.string S1) (RegT.Under.grow _)
    · intro W hR hf
      have h3 := hf _ (.head _) (by kernel_rfl) (.inr rfl)
      have hs := run_convert_str (P := Try.prog) (show RdB W v3 (b ++ Form.nat n) from h3) 24 5 9 Try.underlying24 Try.underlying5 Try.underlying9
      rw [ES1.out] at hs
      clear h3 hf
      go_simp
      exact RegT.OpOK_value ⟨rfl, RegT.Grow.refl _⟩
    simp only [List.set_cons_succ, List.set_cons_zero, Nat.reduceAdd]
    iterate 2
      apply RegT.T_pure rfl rfl rfl
      · intro W hR; go_simp; rfl
      simp only [List.set_cons_succ, List.set_cons_zero, Nat.reduceAdd]
    apply RegT.T_predC rfl rfl rfl 8 (fun v w => RdB w v (Form.nat n)) (RegT.Under.grow _) (fun v x y hR h => RdB.keeps h hR.block)
    · intro W hR _
      have hB1 := (hR hB0).1
      have Hc := Lib.hid (refnat_w n W Hn.out)
      clear hB1
      go_simp
      exact RegT.OpOK_enter Hc.out (fun e w' ⟨p, k, c, he, ho, hk, hB⟩ => ⟨_, he, ho.rd, hB⟩)
    intro v7
    simp only [List.set_cons_succ, List.set_cons_zero, Nat.reduceAdd]
    apply RegT.T_const rfl rfl rfl (.string F1) (RegT.Under.grow _)
    · intro W hR hf
      have h3 := hf _ (.head _) (by kernel_rfl) (.inr rfl)
      have hs := run_convert_str (P := Try.prog) (show RdB W v7 (Form.nat n) from h3) 24 5 9 Try.underlying24 Try.underlying5 Try.underlying9
      rw [EF1.out] at hs
      clear h3 hf
      go_simp
      exact RegT.OpOK_value ⟨rfl, RegT.Grow.refl _⟩
    simp only [List.set_cons_succ, List.set_cons_zero, Nat.reduceAdd]
    iterate 2
      apply RegT.T_pure rfl rfl rfl
      · intro W hR; go_simp; rfl
      simp only [List.set_cons_succ, List.set_cons_zero, Nat.reduceAdd]
    iterate 1
      apply RegT.T_pure rfl rfl rfl
      · intro W hR; go_simp; rfl
      simp only [List.set_cons_succ, List.set_cons_zero, Nat.reduceAdd]
    iterate 1
      apply RegT.T_pure rfl rfl rfl
      · intro W hR; go_simp; rfl
      simp only [List.set_cons_succ, List.set_cons_zero, Nat.reduceAdd]
    apply RegT.T_predC rfl rfl rfl 15 (fun v w => OB w w1.heap.size 5 v b) (RegT.Under.grow _) (fun v x y hR h => OB.keeps h hR.block)
    · intro W hR _
      have hB1 := (hR hB0).1
      have hbW := hB1.cell (p := ⟨w.heap.size, 0, none⟩) hbl1
      have Hc := Lib.hid (own_w w.heap.size (.slice pb b.length cb) b W (hbW.trans Hbx.out) (HBb.out.keeps (fun k hk => hB1.block k hk)) (by omega))
      have hsz := (hR hB0).2
      clear hbW hB1
      go_simp
      exact RegT.OpOK_enter Hc.out (fun e w' ⟨p, k, c, he, ho, hk, hB⟩ => ⟨_, he, by subst hk; exact ownsRow_mono_base ho hsz, hB⟩)
    intro v13
    simp only [List.set_cons_succ, List.set_cons_zero, Nat.reduceAdd]
    iterate 1
      apply RegT.T_pure rfl rfl rfl
      · intro W hR; go_simp; rfl
      simp only [List.set_cons_succ, List.set_cons_zero, Nat.reduceAdd]
    apply RegT.T_write rfl rfl rfl (some 16) (fun v w => RdB w v (b ++ Form.nat (Form.fold i))) (fun v x y hR h => RdB.keeps h hR.block)
    · intro W hR hf
      have h1 := hf _ (.head _) (by kernel_rfl) (.inr rfl)
      have hB1 := (hR hB0).1
      have hsz := (hR hB0).2
      have Hc := Lib.hid (int_w w1.heap.size v13 b i W h1 Hi.out.1 Hi.out.2 (by omega) hsz)
      clear h1 hf hB1
      go_simp
      exact RegT.OpOK_enter Hc.out (fun e w' ⟨p, k, c, he, hk, ho, hB⟩ => ⟨_, he, by subst hk; exact ho.rd, fun _ => ⟨hB, Nat.le_trans hsz hB.size⟩⟩)
    intro v15
    simp only [List.set_cons_succ, List.set_cons_zero, Nat.reduceAdd]
    apply RegT.T_const rfl rfl rfl (.string S2) (RegT.Under.grow _)
    · intro W hR hf
      have h3 := hf _ (.head _) (by kernel_rfl) (.inr rfl)
      have hs := run_convert_str (P := Try.prog) (show RdB W v15 (b ++ Form.nat (Form.fold i)) from h3) 24 5 9 Try.underlying24 Try.underlying5 Try.underlying9
      rw [ES2.out] at hs
      clear h3 hf
      go_simp
      exact RegT.OpOK_value ⟨rfl, RegT.Grow.refl _⟩
    simp only [List.set_cons_succ, List.set_cons_zero, Nat.reduceAdd]
    iterate 2
      apply RegT.T_pure rfl rfl rfl
      · intro W hR; go_simp; rfl
      simp only [List.set_cons_succ, List.set_cons_zero, Nat.reduceAdd]
    apply RegT.T_predC rfl rfl rfl 20 (fun v w => RdB w v (Form.nat (Form.fold i))) (RegT.Under.grow _) (fun v x y hR h => RdB.keeps h hR.block)
    · intro W hR _
      have hB1 := (hR hB0).1
      have Hc := Lib.hid (refint_w i W Hi.out.1 Hi.out.2)
      clear hB1
      go_simp
      exact RegT.OpOK_enter Hc.out (fun e w' ⟨p, k, c, he, ho, hk, hB⟩ => ⟨_, he, ho.rd, hB⟩)
    intro v19
    simp only [List.set_cons_succ, List.set_cons_zero, Nat.reduceAdd]
    apply RegT.T_const rfl rfl rfl (.string F2) (RegT.Under.grow _)
    · intro W hR hf
      have h3 := hf _ (.head _) (by kernel_rfl) (.inr rfl)
      have hs := run_convert_str (P := Try.prog) (show RdB W v19 (Form.nat (Form.fold i)) from h3) 24 5 9 Try.underlying24 Try.underlying5 Try.underlying9
      rw [EF2.out] at hs
      clear h3 hf
      go_simp
      exact RegT.OpOK_value ⟨rfl, RegT.Grow.refl _⟩
    simp only [List.set_cons_succ, List.set_cons_zero, Nat.reduceAdd]
    iterate 2
      apply RegT.T_pure rfl rfl rfl
      · intro W hR; go_simp; rfl
      simp only [List.set_cons_succ, List.set_cons_zero, Nat.reduceAdd]
    iterate 2
      apply RegT.T_pure rfl rfl rfl
      · intro W hR; go_simp; rfl
      simp only [List.set_cons_succ, List.set_cons_zero, Nat.reduceAdd]
    iterate 1
      apply RegT.T_pure rfl rfl rfl
      · intro W hR; go_simp; rfl
      simp only [List.set_cons_succ, List.set_cons_zero, Nat.reduceAdd]
    apply RegT.T_predC rfl rfl rfl 28 (fun v w => OB w w1.heap.size 5 v b) (RegT.Under.grow _) (fun v x y hR h => OB.keeps h hR.block)
    · intro W hR _
      have hB1 := (hR hB0).1
      have hbW := hB1.cell (p := ⟨w.heap.size, 0, none⟩) hbl1
      have Hc := Lib.hid (own_w w.heap.size (.slice pb b.length cb) b W (hbW.trans Hbx.out) (HBb.out.keeps (fun k hk => hB1.block k hk)) (by omega))
      have hsz := (hR hB0).2
      clear hbW hB1
      go_simp
      exact RegT.OpOK_enter Hc.out (fun e w' ⟨p, k, c, he, ho, hk, hB⟩ => ⟨_, he, by subst hk; exact ownsRow_mono_base ho hsz, hB⟩)
    intro v26
    simp only [List.set_cons_succ, List.set_cons_zero, Nat.reduceAdd]
    iterate 1
      apply RegT.T_pure rfl rfl rfl
      · intro W hR; go_simp; rfl
      simp only [List.set_cons_succ, List.set_cons_zero, Nat.reduceAdd]
    apply RegT.T_write rfl rfl rfl (some 29) (fun v w => RdB w v (b ++ Form.flag f)) (fun v x y hR h => RdB.keeps h hR.block)
    · intro W hR hf
      have h1 := hf _ (.head _) (by kernel_rfl) (.inr rfl)
      have hB1 := (hR hB0).1
      have hsz := (hR hB0).2
      have Hc := Lib.hid (flag_w w1.heap.size v26 b f W h1 (by omega) hsz)
      clear h1 hf hB1
      go_simp
      exact RegT.OpOK_enter Hc.out (fun e w' ⟨p, k, c, he, hk, ho, hB⟩ => ⟨_, he, by subst hk; exact ho.rd, fun _ => ⟨hB, Nat.le_trans hsz hB.size⟩⟩)
    intro v28
    simp only [List.set_cons_succ, List.set_cons_zero, Nat.reduceAdd]
    apply RegT.T_const rfl rfl rfl (.string S3) (RegT.Under.grow _)
    · intro W hR hf
      have h3 := hf _ (.head _) (by kernel_rfl) (.inr rfl)
      have hs := run_convert_str (P := Try.prog) (show RdB W v28 (b ++ Form.flag f) from h3) 24 5 9 Try.underlying24 Try.underlying5 Try.underlying9
      rw [ES3.out] at hs
      clear h3 hf
      go_simp
      exact RegT.OpOK_value ⟨rfl, RegT.Grow.refl _⟩
    simp only [List.set_cons_succ, List.set_cons_zero, Nat.reduceAdd]
    iterate 2
      apply RegT.T_pure rfl rfl rfl
      · intro W hR; go_simp; rfl
      simp only [List.set_cons_succ, List.set_cons_zero, Nat.reduceAdd]
    apply RegT.T_predC rfl rfl rfl 33 (fun v w => RdB w v (Form.flag f)) (RegT.Under.grow _) (fun v x y hR h => RdB.keeps h hR.block)
    · intro W hR _
      have hB1 := (hR hB0).1
      have Hc := Lib.hid (refflag_w f W)
      clear hB1
      go_simp
      exact RegT.OpOK_enter Hc.out (fun e w' ⟨p, k, c, he, ho, hk, hB⟩ => ⟨_, he, ho.rd, hB⟩)
    intro v32
    simp only [List.set_cons_succ, List.set_cons_zero, Nat.reduceAdd]
    apply RegT.T_const rfl rfl rfl (.string F3) (RegT.Under.grow _)
    · intro W hR hf
      have h3 := hf _ (.head _) (by kernel_rfl) (.inr rfl)
      have hs := run_convert_str (P := Try.prog) (show RdB W v32 (Form.flag f) from h3) 24 5 9 Try.underlying24 Try.underlying5 Try.underlying9
      rw [EF3.out] at hs
      clear h3 hf
      go_simp
      exact RegT.OpOK_value ⟨rfl, RegT.Grow.refl _⟩
    simp only [List.set_cons_succ, List.set_cons_zero, Nat.reduceAdd]
    iterate 2
      apply RegT.T_pure rfl rfl rfl
      · intro W hR; go_simp; rfl
      simp only [List.set_cons_succ, List.set_cons_zero, Nat.reduceAdd]
    iterate 2
      apply RegT.T_pure rfl rfl rfl
      · intro W hR; go_simp; rfl
      simp only [List.set_cons_succ, List.set_cons_zero, Nat.reduceAdd]
    iterate 1
      apply RegT.T_pure rfl rfl rfl
      · intro W hR; go_simp; rfl
      simp only [List.set_cons_succ, List.set_cons_zero, Nat.reduceAdd]
    apply RegT.T_predC rfl rfl rfl 41 (fun v w => OB w w1.heap.size 5 v b) (RegT.Under.grow _) (fun v x y hR h => OB.keeps h hR.block)
    · intro W hR _
      have hB1 := (hR hB0).1
      have hbW := hB1.cell (p := ⟨w.heap.size, 0, none⟩) hbl1
      have Hc := Lib.hid (own_w w.heap.size (.slice pb b.length cb) b W (hbW.trans Hbx.out) (HBb.out.keeps (fun k hk => hB1.block k hk)) (by omega))
      have hsz := (hR hB0).2
      clear hbW hB1
      go_simp
      exact RegT.OpOK_enter Hc.out (fun e w' ⟨p, k, c, he, ho, hk, hB⟩ => ⟨_, he, by subst hk; exact ownsRow_mono_base ho hsz, hB⟩)
    intro v39
    simp only [List.set_cons_succ, List.set_cons_zero, Nat.reduceAdd]
    iterate 1
      apply RegT.T_pure rfl rfl rfl
      · intro W hR; go_simp; rfl
      simp only [List.set_cons_succ, List.set_cons_zero, Nat.reduceAdd]
    apply RegT.T_write rfl rfl rfl (some 42) (fun v w => RdB w v (b ++ Form.text t)) (fun v x y hR h => RdB.keeps h hR.block)
    · intro W hR hf
      have h1 := hf _ (.head _) (by kernel_rfl) (.inr rfl)
      have hB1 := (hR hB0).1
      have hsz := (hR hB0).2
      have Hc := Lib.hid (text_w w1.drew v39 v' b t W h1 (HM.out.keeps (Keeps.refl w1).drew) hB1 (by omega) (by omega))
      clear h1 hf hB1
      go_simp
      exact RegT.OpOK_enter Hc.out (fun e w' ⟨p, k, c, he, hk, ho, hB⟩ => ⟨_, he, by subst hk; exact ho.rd, fun _ => ⟨hB, Nat.le_trans hsz hB.size⟩⟩)
    intro v41
    simp only [List.set_cons_succ, List.set_cons_zero, Nat.reduceAdd]
    apply RegT.T_const rfl rfl rfl (.string S4) (RegT.Under.grow _)
    · intro W hR hf
      have h3 := hf _ (.head _) (by kernel_rfl) (.inr rfl)
      have hs := run_convert_str (P := Try.prog) (show RdB W v41 (b ++ Form.text t) from h3) 24 5 9 Try.underlying24 Try.underlying5 Try.underlying9
      rw [ES4.out] at hs
      clear h3 hf
      go_simp
      exact RegT.OpOK_value ⟨rfl, RegT.Grow.refl _⟩
    simp only [List.set_cons_succ, List.set_cons_zero, Nat.reduceAdd]
    iterate 2
      apply RegT.T_pure rfl rfl rfl
      · intro W hR; go_simp; rfl
      simp only [List.set_cons_succ, List.set_cons_zero, Nat.reduceAdd]
    apply RegT.T_predC rfl rfl rfl 46 (fun v w => RdB w v (Form.text t)) (RegT.Under.grow _) (fun v x y hR h => RdB.keeps h hR.block)
    · intro W hR _
      have hB1 := (hR hB0).1
      have Hc := Lib.hid (reftext_w (.slice pt t.length ct) t W (HBt.out.keeps (fun k hk => hB1.block k hk)) (by omega))
      clear hB1
      go_simp
      exact RegT.OpOK_enter Hc.out (fun e w' ⟨p, k, c, he, ho, hk, hB⟩ => ⟨_, he, ho.rd, hB⟩)
    intro v45
    simp only [List.set_cons_succ, List.set_cons_zero, Nat.reduceAdd]
    apply RegT.T_const rfl rfl rfl (.string F4) (RegT.Under.grow _)
    · intro W hR hf
      have h3 := hf _ (.head _) (by kernel_rfl) (.inr rfl)
      have hs := run_convert_str (P := Try.prog) (show RdB W v45 (Form.text t) from h3) 24 5 9 Try.underlying24 Try.underlying5 Try.underlying9
      rw [EF4.out] at hs
      clear h3 hf
      go_simp
      exact RegT.OpOK_value ⟨rfl, RegT.Grow.refl _⟩
    simp only [List.set_cons_succ, List.set_cons_zero, Nat.reduceAdd]
    iterate 2
      apply RegT.T_pure rfl rfl rfl
      · intro W hR; go_simp; rfl
      simp only [List.set_cons_succ, List.set_cons_zero, Nat.reduceAdd]
    iterate 2
      apply RegT.T_pure rfl rfl rfl
      · intro W hR; go_simp; rfl
      simp only [List.set_cons_succ, List.set_cons_zero, Nat.reduceAdd]
    iterate 2
      apply RegT.T_pure rfl rfl rfl
      · intro W hR; go_simp; rfl
      simp only [List.set_cons_succ, List.set_cons_zero, Nat.reduceAdd]
    apply RegT.T_const rfl rfl rfl (.bool true) (RegT.Under.grow _)
    · intro W hR hf
      have hB1 := (hR hB0).1
      have Hc := Lib.hid (kept_w _ v' (.slice pt t.length ct) t W (Hm.out.keeps (fun k hk => hB1.block k hk)) (HBt.out.keeps (fun k hk => hB1.block k hk)) (by omega))
      clear hB1 hf
      go_simp
      exact RegT.OpOK_enter Hc.out (fun e w' ⟨he, hw⟩ => ⟨_, he, rfl, by subst hw; exact RegT.Grow.refl _⟩)
    simp only [List.set_cons_succ, List.set_cons_zero, Nat.reduceAdd]
    iterate 2
      apply RegT.T_pure rfl rfl rfl
      · intro W hR; go_simp; rfl
      simp only [List.set_cons_succ, List.set_cons_zero, Nat.reduceAdd]
    apply RegT.T_const rfl rfl rfl (.bool true) (RegT.Under.grow _)
    · intro W hR hf
      have Hc := Lib.hid (known_w W)
      clear hf
      go_simp
      exact RegT.OpOK_enter Hc.out (fun e w' ⟨he, hB⟩ => ⟨_, he, rfl, hB⟩)
    simp only [List.set_cons_succ, List.set_cons_zero, Nat.reduceAdd]
    iterate 1
      apply RegT.T_pure rfl rfl rfl
      · intro W hR; go_simp; rfl
      simp only [List.set_cons_succ, List.set_cons_zero, Nat.reduceAdd]
    refine RegT.T_tail (fun W hR _ => ?_)
    have hfin := (hR hB0).1
    clear hR
    have Hfin := Lib.hid hfin
    clear hfin
    go_wp2
    go_ret
    exact ⟨rfl, (HB00.out.drew.trans (Hfin.out.mono hw0))⟩
  · rfl
  · kernel_rfl

set_option maxRecDepth 100000 in
theorem writes_w (n : Nat) (i : Int) (f : Bool) (va vt : Value) (b t : List UInt8) (w : World) (hn : n < 2 ^ 64) (hi : -9223372036854775808 ≤ i ∧ i ≤ 9223372036854775807) (hb : RdB w va b) (ht : RdB w vt t) :
    Calls Try.prog 5 #[.int .u64 (n : Int), .int .i64 i, .bool f, va, vt] w fun e w' => e = .returned (.bool true) ∧ Below w.heap.size w w' := by
  by_cases hbig : b.length ≤ 100000 ∧ t.length ≤ 100000
  · exact writes_in_w n i f va vt b t w hn hi hb ht hbig.1 hbig.2
  · have hlb := hb.le
    have hlt := ht.le
    obtain ⟨pb, cb, rfl, hpb⟩ := hb
    obtain ⟨pt, ct, rfl, hpt⟩ := ht
    by_cases h1 : 100000 < b.length
    · have hd1 : decide (100000 < (b.length : Int)) = true := by simp; omega
      clear hbig hpb hpt hn hi
      go_enter Try.func5, Try.ntmps5
      go_wp2_with (go_at_call 18; with_reducible refine (known_w _).mono ?_; rintro e w2 ⟨rfl, hB⟩; have HB2 := Lib.hid hB; clear hB)
      go_ret
      exact ⟨rfl, ((Below.refl w.heap.size w).alloc (Nat.le_refl _) _).trans (HB2.out.mono (by simp))⟩
    · have hd1 : decide (100000 < (b.length : Int)) = false := by simp; omega
      have hd2 : decide (100000 < (t.length : Int)) = true := by simp; omega
      clear hbig hpb hpt hn hi
      go_enter Try.func5, Try.ntmps5
      go_wp2_with (go_at_call 18; with_reducible refine (known_w _).mono ?_; rintro e w2 ⟨rfl, hB⟩; have HB2 := Lib.hid hB; clear hB)
      go_ret
      exact ⟨rfl, ((Below.refl w.heap.size w).alloc (Nat.le_refl _) _).trans (HB2.out.mono (by simp))⟩
end Go.Proofs.Ytpbdnndpdidagaa
