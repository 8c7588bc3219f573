/- Packing, copying: walks of the document's Pack, and of Pack, Copy and Base. -/
import Derived.Test.YteellfgiejnigaaT26
import Derived.Test.YteellfgiejnigaaT14
namespace Go.Proofs.Yteellfgiejnigaa
open Go.ChangeShapes Go.WideShapes Go.ChangeAt Go.RowKit
set_option linter.unusedVariables false

set_option maxRecDepth 100000 in
set_option maxHeartbeats 1600000 in
theorem rpack_ok_w (S : Foot) (g B T i : Nat) (v : Value) (es : List Ent) (w : World) (h : RkAt w S g B T v es) (hi : mayI B es.length i = true) (hn : es.length ≤ 1000000) :
    Calls Try.prog 35 #[.pointer (some ⟨g, 0, none⟩), .int .u64 (i : Int)] w fun r w' => r = .returned (.int .i64 0) ∧ (∃ v', RkAt w' (fun b => S b ∨ w.heap.size ≤ b) g i (termAt B T es i).1 v' (es.drop (i - B))) ∧ Touch S w w' := by
  have Hlast := Lib.hid (rlast_w S g B T v es w h)
  have H := Lib.hid (h.mono (S' := fun b => S b ∧ b < w.heap.size) fun b hb hs => ⟨hs, hb⟩)
  have HS := Lib.hid h.foot
  obtain ⟨p, c, rfl⟩ := h.own.form
  have hin : B ≤ i ∧ i ≤ B + es.length := by unfold mayI at hi; simpa using hi
  obtain ⟨n, hnn⟩ : ∃ n, n = i - B := ⟨_, rfl⟩
  rw [← hnn]
  have hfit := h.fits
  have hi64 : i < 2 ^ 64 := by omega
  have e1 : IntKind.u64.wrap ((i : Int) - (B : Int)) = (n : Int) := by rw [IntWalk.u64_in _ (by omega)]; omega
  have hnl : n ≤ es.length := by omega
  have hx0 := H.out.own.rd
  obtain ⟨q, d, hsl, hlo⟩ := slice_lo_es hx0 hnl
  have Hn := Lib.hid (And.intro hnl (show i + (es.length - n) < 2 ^ 64 by omega))
  have Hl6 := Lib.hid hn
  have Hlo := Lib.hid hlo
  have d1 : decide (i < B) = false := by simp; omega
  have d2 : decide (B + es.length < i) = false := by simp; omega
  have c0 := h.c0
  have Htm := Lib.hid (fun W (hW : RkAt W (fun b => S b ∧ b < w.heap.size) g B T (.slice p es.length c) es) => rtermat_w _ g B T _ es i W hW hn hi64)
  have htl := termAt_lt (B := B) (T := T) h.own.rd h.bT i
  generalize (termAt B T es i).2 = tb at *
  generalize (termAt B T es i).1 = t at *
  have Htl := Lib.hid htl
  generalize B + es.length = L at *
  clear h hi hin hnn hfit hn htl hx0 hlo hnl
  go_enter Try.func35, Try.ntmps35
  go_wp2_with (first
    | (go_at_call 80; refine (Hlast.out).mono ?_; rintro r w1 ⟨rfl, hB⟩; have H1 := Lib.hid (H.out.keeps hB.block); have HB := Lib.hid hB; clear hB Hlast c0)
    | (go_at_call 38; refine (Htm.out _ H1.out).mono ?_; rintro r w2 ⟨rfl, hB⟩; have H2 := Lib.hid (H1.out.keeps hB.block); have HB2 := Lib.hid (HB.out.trans (hB.mono HB.out.size)); clear hB))
  have hsz2 : w.heap.size ≤ w2.heap.size := HB2.out.size
  have Hg0 := Lib.hid (fun (W : World) (hR : RegT.Grow w2.drew W) => (World.cell?_of_block (w := w2) (a := ⟨g, 0, none⟩) (hR.block g H2.out.lt)).trans H2.out.c0)
  have Hg1 := Lib.hid (fun (W : World) (hR : RegT.Grow w2.drew W) => (World.cell?_of_block (w := w2) (a := ⟨g, 1, none⟩) (hR.block g H2.out.lt)).trans H2.out.c1)
  have Hg2 := Lib.hid (fun (W : World) (hR : RegT.Grow w2.drew W) => (World.cell?_of_block (w := w2) (a := ⟨g, 2, none⟩) (hR.block g H2.out.lt)).trans H2.out.c2)
  apply RegT.wp_region_T rfl 49 16 rfl (by kernel_rfl) RegT.Grow RegT.Grow.refl RegT.Grow.trans
  · apply RegT.T_pure rfl rfl rfl
    · intro W hR; go_simp; rfl
    simp only [List.set_cons_succ, List.set_cons_zero, Nat.reduceAdd]
    apply RegT.T_predC rfl rfl rfl 13 (FreshE w2.heap.size) (fun _ _ h => h) (fun y x z hR h => h.keeps hR.block)
    · intro W hR hf
      have hsz : w2.heap.size ≤ W.heap.size := hR.size
      clear hR hf
      go_simp
      exact RegT.OpOK_value ⟨FreshE.new hsz, (Below.refl _ _).alloc (Nat.le_refl _) _⟩
    intro v1
    simp only [List.set_cons_succ, List.set_cons_zero, Nat.reduceAdd]
    iterate 2
      apply RegT.T_pure rfl rfl rfl
      · intro W hR; go_simp; rfl
      simp only [List.set_cons_succ, List.set_cons_zero, Nat.reduceAdd]
    apply RegT.T_pure (v := .pointer (some ⟨g, 2, none⟩)) rfl rfl rfl
    · intro W hR; clear hR; go_simp
    simp only [List.set_cons_succ, List.set_cons_zero, Nat.reduceAdd]
    apply RegT.T_pure (v := .slice p es.length c) rfl rfl rfl
    · intro W hR
      have hc := Hg2.out W hR
      clear hR
      go_simp
    simp only [List.set_cons_succ, List.set_cons_zero, Nat.reduceAdd]
    iterate 3
      apply RegT.T_pure rfl rfl rfl
      · intro W hR; go_simp; rfl
      simp only [List.set_cons_succ, List.set_cons_zero, Nat.reduceAdd]
    apply RegT.T_pure (v := .pointer (some ⟨g, 0, none⟩)) rfl rfl rfl
    · intro W hR; clear hR; go_simp
    simp only [List.set_cons_succ, List.set_cons_zero, Nat.reduceAdd]
    apply RegT.T_pure (v := .int .u64 (B : Int)) rfl rfl rfl
    · intro W hR
      have hc := Hg0.out W hR
      clear hR
      go_simp
    simp only [List.set_cons_succ, List.set_cons_zero, Nat.reduceAdd]
    apply RegT.T_pure (v := .int .u64 (n : Int)) rfl rfl rfl
    · intro W hR; clear hR; go_simp
    simp only [List.set_cons_succ, List.set_cons_zero, Nat.reduceAdd]
    apply RegT.T_pure (v := .slice q (es.length - n) d) rfl rfl rfl
    · intro W hR; clear hR; go_simp
    simp only [List.set_cons_succ, List.set_cons_zero, Nat.reduceAdd]
    apply RegT.T_pred rfl rfl rfl (fun y W => EsG W (fun b => (S b ∨ w.heap.size ≤ b) ∧ b ≠ g) 53 y (es.drop n)) (fun _ _ h => h) (fun y x z hR h => h.keeps hR.block)
    · intro W hR hf
      have h1 : FreshE w2.heap.size v1 W := hf _ (.head _) (by kernel_rfl) (.inr rfl)
      have hx := (Hlo.out.keeps (Keeps.trans HB2.out.block ((Keeps.refl w2).drew.trans hR.block))).mono (S' := fun b => ((S b ∧ b < w.heap.size) ∧ b ≠ g) ∧ b < w2.heap.size) fun b _ hb => ⟨hb, by have := hb.1.2; omega⟩
      obtain ⟨v', w', hr, ho, hg⟩ := fresh_ents (ty := 28) h1 hx (by have := Hl6.out; rw [List.length_drop]; omega) hR.size
      exact append_ok (.tmp 26) (.tmp 37) rfl rfl rfl hr ⟨ho.mono fun b _ hb => by
        rcases hb with hb | hb
        · exact ⟨.inl hb.1.1, hb.2⟩
        · have hgl := H2.out.lt
          exact ⟨.inr (by omega), by omega⟩, hg⟩
    intro vA
    simp only [List.set_cons_succ, List.set_cons_zero, Nat.reduceAdd]
    apply RegT.T_pure rfl rfl rfl
    · intro W hR; go_simp; rfl
    simp only [List.set_cons_succ, List.set_cons_zero, Nat.reduceAdd]
    apply RegT.T_pure (v := .pointer (some ⟨g, 2, none⟩)) rfl rfl rfl
    · intro W hR; clear hR; go_simp
    simp only [List.set_cons_succ, List.set_cons_zero, Nat.reduceAdd]
    refine RegT.T_tail (fun W hR hf => ?_)
    have hy : EsG W (fun b => (S b ∨ w.heap.size ≤ b) ∧ b ≠ g) 53 vA (es.drop n) := hf _ (.head _) (.inl rfl)
    obtain ⟨p8, n8, c8, rfl⟩ : ∃ p n c, vA = .slice p n c := by obtain ⟨p, c, e⟩ := hy.form; exact ⟨p, _, c, e⟩
    have HTW := Lib.hid (H2.out.keeps ((Keeps.refl w2).drew.trans hR.block))
    have hc2 := HTW.out.c2
    have hf2 := HTW.out.frozen 2
    have HP := Lib.hid (HTW.out.put (S' := fun b => S b ∨ w.heap.size ≤ b) (.inl HS.out) hy (by have := HTW.out.fits; rw [List.length_drop]; omega))
    have hc0 := HP.out.c0
    have hf0 := HP.out.frozen 0
    have HP0 := Lib.hid (HP.out.set0 (i := i) (by have := Hn.out.2; rw [List.length_drop]; omega))
    have hc1 := HP0.out.c1
    have hf1 := HP0.out.frozen 1
    have HP1 := Lib.hid (HP0.out.set1 (i := t) Htl.out)
    have HTo := Lib.hid (HB2.out.trans (((Below.refl w2.heap.size w2).drew.trans hR).mono HB2.out.size))
    clear hR hf hy
    simp only [List.drop_succ_cons, List.drop_zero]
    go_wp2
    go_ret
    refine ⟨rfl, ⟨_, HP1.out⟩, ?_⟩
    exact ((((Touch.of_below HTo.out).trans (Touch.of_grownBy (S := S) (Lib.grownBy_setCell W g 2 _) (fun b e => by cases e; exact HS.out)) (fun b _ e => e)).trans (Touch.of_grownBy (S := S) (Lib.grownBy_setCell _ g 0 _) (fun b e => by cases e; exact HS.out)) (fun b _ e => e)).trans (Touch.of_grownBy (S := S) (Lib.grownBy_setCell _ g 1 _) (fun b e => by cases e; exact HS.out)) (fun b _ e => e))
  · rfl
  · kernel_rfl
set_option maxRecDepth 100000 in
set_option maxHeartbeats 1600000 in
theorem pack_ok_w (S : Foot) (g B T i : Nat) (v : Value) (es : List Ent) (w : World) (h : TkAt w S g B T v es) (hi : mayI B es.length i = true) (hn : es.length ≤ 1000000) :
    Calls Try.prog 34 #[.pointer (some ⟨g, 0, none⟩), .int .u64 (i : Int)] w fun r w' => r = .returned (.int .i64 0) ∧ (∃ v', TkAt w' (fun b => S b ∨ w.heap.size ≤ b) g i (termAt B T es i).1 v' (es.drop (i - B))) ∧ Touch S w w' := by
  have Hlast := Lib.hid (may_w S g B T i v es w h)
  have H := Lib.hid (h.mono (S' := fun b => S b ∧ b < w.heap.size) fun b hb hs => ⟨hs, hb⟩)
  have HS := Lib.hid h.foot
  obtain ⟨p, c, rfl⟩ := h.own.form
  have hin : B ≤ i ∧ i ≤ B + es.length := by unfold mayI at hi; simpa using hi
  obtain ⟨n, hnn⟩ : ∃ n, n = i - B := ⟨_, rfl⟩
  rw [← hnn]
  have hfit := h.fits
  have hi64 : i < 2 ^ 64 := by omega
  have e1 : IntKind.u64.wrap ((i : Int) - (B : Int)) = (n : Int) := by rw [IntWalk.u64_in _ (by omega)]; omega
  have hnl : n ≤ es.length := by omega
  have hx0 := H.out.own.rd
  obtain ⟨q, d, hsl, hlo⟩ := slice_lo_es hx0 hnl
  have Hn := Lib.hid (And.intro hnl (show i + (es.length - n) < 2 ^ 64 by omega))
  have Hl6 := Lib.hid hn
  have Hlo := Lib.hid hlo
  have d1 : decide (i < B) = false := by simp; omega
  have d2 : decide (B + es.length < i) = false := by simp; omega
  have c0 := h.c0
  have Htm := Lib.hid (fun W (hW : TkAt W (fun b => S b ∧ b < w.heap.size) g B T (.slice p es.length c) es) => termat_w _ g B T _ es i W hW hn hi64)
  have htl := termAt_lt (B := B) (T := T) h.own.rd h.bT i
  generalize (termAt B T es i).2 = tb at *
  generalize (termAt B T es i).1 = t at *
  have Htl := Lib.hid htl
  unfold mayE at Hlast
  rw [hi] at Hlast
  simp only [if_true] at Hlast
  clear h hi hin hnn hfit hn htl hx0 hlo hnl
  go_enter Try.func34, Try.ntmps34
  go_wp2_with (first
    | (go_at_call 79; refine (Hlast.out).mono ?_; rintro r w1 ⟨rfl, hB⟩; have H1 := Lib.hid (H.out.keeps hB.block); have HB := Lib.hid hB; clear hB Hlast c0)
    | (go_at_call 28; refine (Htm.out _ H1.out).mono ?_; rintro r w2 ⟨rfl, hB⟩; have H2 := Lib.hid (H1.out.keeps hB.block); have HB2 := Lib.hid (HB.out.trans (hB.mono HB.out.size)); clear hB))
  have hsz2 : w.heap.size ≤ w2.heap.size := HB2.out.size
  have Hg0 := Lib.hid (fun (W : World) (hR : RegT.Grow w2.drew W) => (World.cell?_of_block (w := w2) (a := ⟨g, 0, none⟩) (hR.block g H2.out.lt)).trans H2.out.c0)
  have Hg1 := Lib.hid (fun (W : World) (hR : RegT.Grow w2.drew W) => (World.cell?_of_block (w := w2) (a := ⟨g, 1, none⟩) (hR.block g H2.out.lt)).trans H2.out.c1)
  have Hg2 := Lib.hid (fun (W : World) (hR : RegT.Grow w2.drew W) => (World.cell?_of_block (w := w2) (a := ⟨g, 2, none⟩) (hR.block g H2.out.lt)).trans H2.out.c2)
  apply RegT.wp_region_T rfl 43 15 rfl (by kernel_rfl) RegT.Grow RegT.Grow.refl RegT.Grow.trans
  · iterate 3
      apply RegT.T_pure rfl rfl rfl
      · intro W hR; go_simp; rfl
      simp only [List.set_cons_succ, List.set_cons_zero, Nat.reduceAdd]
    apply RegT.T_pure (v := .pointer (some ⟨g, 2, none⟩)) rfl rfl rfl
    · intro W hR; clear hR; go_simp
    simp only [List.set_cons_succ, List.set_cons_zero, Nat.reduceAdd]
    apply RegT.T_pure (v := .slice p es.length c) rfl rfl rfl
    · intro W hR
      have hc := Hg2.out W hR
      clear hR
      go_simp
    simp only [List.set_cons_succ, List.set_cons_zero, Nat.reduceAdd]
    iterate 3
      apply RegT.T_pure rfl rfl rfl
      · intro W hR; go_simp; rfl
      simp only [List.set_cons_succ, List.set_cons_zero, Nat.reduceAdd]
    apply RegT.T_pure (v := .pointer (some ⟨g, 0, none⟩)) rfl rfl rfl
    · intro W hR; clear hR; go_simp
    simp only [List.set_cons_succ, List.set_cons_zero, Nat.reduceAdd]
    apply RegT.T_pure (v := .int .u64 (B : Int)) rfl rfl rfl
    · intro W hR
      have hc := Hg0.out W hR
      clear hR
      go_simp
    simp only [List.set_cons_succ, List.set_cons_zero, Nat.reduceAdd]
    apply RegT.T_pure (v := .int .u64 (n : Int)) rfl rfl rfl
    · intro W hR; clear hR; go_simp
    simp only [List.set_cons_succ, List.set_cons_zero, Nat.reduceAdd]
    apply RegT.T_pure (v := .slice q (es.length - n) d) rfl rfl rfl
    · intro W hR; clear hR; go_simp
    simp only [List.set_cons_succ, List.set_cons_zero, Nat.reduceAdd]
    apply RegT.T_pred rfl rfl rfl (fun y W => EsG W (fun b => (S b ∨ w.heap.size ≤ b) ∧ b ≠ g) 53 y (es.drop n)) (fun _ _ h => h) (fun y x z hR h => h.keeps hR.block)
    · intro W hR hf
      have hx := (Hlo.out.keeps (Keeps.trans HB2.out.block ((Keeps.refl w2).drew.trans hR.block))).mono (S' := fun b => ((S b ∧ b < w.heap.size) ∧ b ≠ g) ∧ b < w2.heap.size) fun b _ hb => ⟨hb, by have := hb.1.2; omega⟩
      obtain ⟨v', w', hr, ho, hg⟩ := nil_ents (ty := 28) (B0 := w2.heap.size) hx (by have := Hl6.out; rw [List.length_drop]; omega) hR.size
      exact append_ok (.const (.slice none 0 0)) (.tmp 30) rfl rfl rfl hr ⟨ho.mono fun b _ hb => by
        rcases hb with hb | hb
        · exact ⟨.inl hb.1.1, hb.2⟩
        · have hgl := H2.out.lt
          exact ⟨.inr (by omega), by omega⟩, hg⟩
    intro vA
    simp only [List.set_cons_succ, List.set_cons_zero, Nat.reduceAdd]
    apply RegT.T_pure rfl rfl rfl
    · intro W hR; go_simp; rfl
    simp only [List.set_cons_succ, List.set_cons_zero, Nat.reduceAdd]
    apply RegT.T_pure (v := .pointer (some ⟨g, 2, none⟩)) rfl rfl rfl
    · intro W hR; clear hR; go_simp
    simp only [List.set_cons_succ, List.set_cons_zero, Nat.reduceAdd]
    refine RegT.T_tail (fun W hR hf => ?_)
    have hy : EsG W (fun b => (S b ∨ w.heap.size ≤ b) ∧ b ≠ g) 53 vA (es.drop n) := hf _ (.head _) (.inl rfl)
    obtain ⟨p8, n8, c8, rfl⟩ : ∃ p n c, vA = .slice p n c := by obtain ⟨p, c, e⟩ := hy.form; exact ⟨p, _, c, e⟩
    have HTW := Lib.hid (H2.out.keeps ((Keeps.refl w2).drew.trans hR.block))
    have hc2 := HTW.out.c2
    have hf2 := HTW.out.frozen 2
    have HP := Lib.hid (HTW.out.put (S' := fun b => S b ∨ w.heap.size ≤ b) (.inl HS.out) hy (by have := HTW.out.fits; rw [List.length_drop]; omega))
    have hc0 := HP.out.c0
    have hf0 := HP.out.frozen 0
    have HP0 := Lib.hid (HP.out.set0 (i := i) (by have := Hn.out.2; rw [List.length_drop]; omega))
    have hc1 := HP0.out.c1
    have hf1 := HP0.out.frozen 1
    have HP1 := Lib.hid (HP0.out.set1 (i := t) Htl.out)
    have HTo := Lib.hid (HB2.out.trans (((Below.refl w2.heap.size w2).drew.trans hR).mono HB2.out.size))
    clear hR hf hy
    simp only [List.drop_succ_cons, List.drop_zero]
    go_wp2
    go_ret
    refine ⟨rfl, ⟨_, HP1.out⟩, ?_⟩
    exact ((((Touch.of_below HTo.out).trans (Touch.of_grownBy (S := S) (Lib.grownBy_setCell W g 2 _) (fun b e => by cases e; exact HS.out)) (fun b _ e => e)).trans (Touch.of_grownBy (S := S) (Lib.grownBy_setCell _ g 0 _) (fun b e => by cases e; exact HS.out)) (fun b _ e => e)).trans (Touch.of_grownBy (S := S) (Lib.grownBy_setCell _ g 1 _) (fun b e => by cases e; exact HS.out)) (fun b _ e => e))
  · rfl
  · kernel_rfl
set_option maxRecDepth 100000 in
theorem pack_no_w (S : Foot) (g B T i : Nat) (v : Value) (es : List Ent) (w : World) (h : TkAt w S g B T v es) (hi : mayI B es.length i = false) :
    Calls Try.prog 34 #[.pointer (some ⟨g, 0, none⟩), .int .u64 (i : Int)] w fun r w' => r = .returned (.int .i64 2) ∧ Below w.heap.size w w' := by
  have HM := Lib.hid (may_w S g B T i v es w h)
  unfold mayE at HM
  rw [hi] at HM
  simp only [Bool.false_eq_true, if_false] at HM
  clear h hi
  go_enter Try.func34, Try.ntmps34
  go_wp2_with (go_at_call 79; refine (HM.out).mono ?_; rintro r w1 ⟨rfl, hB⟩; have HB := Lib.hid hB; clear hB)
  go_ret
  exact ⟨rfl, HB.out⟩
set_option maxRecDepth 100000 in
theorem base_w (S : Foot) (g B T : Nat) (v : Value) (es : List Ent) (w : World) (h : TkAt w S g B T v es) :
    Calls Try.prog 42 #[.pointer (some ⟨g, 0, none⟩)] w fun r w' => r = .returned (.tuple #[.int .u64 (B : Int), .int .u64 (T : Int)]) ∧ Below w.heap.size w w' := by
  have c0 := h.c0
  have c1 := h.c1
  clear h
  go_enter Try.func42, Try.ntmps42
  go_wp2
  go_quiet (fail)
  go_wp2
  go_ret2
  exact ⟨rfl, ⟨rfl, rfl, rfl, Nat.le_refl _, fun _ _ => rfl⟩⟩
/-- A new track. -/
def NewTk (B0 B T : Nat) (es : List Ent) (y : Value) (W : World) : Prop := ∃ N v', y = .pointer (some ⟨N, 0, none⟩) ∧ B0 ≤ N ∧ TkAt W (fun b => B0 ≤ b) N B T v' es
theorem NewTk.keeps {B0 B T : Nat} {es : List Ent} {y : Value} {W W' : World} (h : NewTk B0 B T es y W) (hk : Keeps W W') : NewTk B0 B T es y W' := by
  obtain ⟨N, v', e, hN, ht⟩ := h; exact ⟨N, v', e, hN, ht.keeps hk⟩
set_option maxRecDepth 100000 in
set_option maxHeartbeats 1600000 in
theorem copy_w (S : Foot) (g B T : Nat) (v : Value) (es : List Ent) (w : World) (h : TkAt w S g B T v es) (hn : es.length ≤ 1000000) (hl : ∀ e ∈ es, e.2.length ≤ 1000000) :
    Calls Try.prog 39 #[.pointer (some ⟨g, 0, none⟩)] w fun r w' => ∃ N v', r = .returned (.pointer (some ⟨N, 0, none⟩)) ∧ w.heap.size ≤ N ∧ TkAt w' (fun b => w.heap.size ≤ b) N B T v' es ∧ Below w.heap.size w w' := by
  have H := Lib.hid h
  have hfit := h.fits
  have Hnew := Lib.hid (fun W (hW : EsR W (fun b => S b ∧ b ≠ g) v es) => new_w _ B T v es W h.bB h.bT hW hn hl)
  rw [List.take_of_length_le (by omega)] at Hnew
  clear h hfit hn hl
  go_enter Try.func39, Try.ntmps39
  go_wp2
  have Hg0 := Lib.hid (fun (W : World) (hR : RegT.Grow w.drew W) => (World.cell?_of_block (w := w) (a := ⟨g, 0, none⟩) (hR.block g H.out.lt)).trans H.out.c0)
  have Hg1 := Lib.hid (fun (W : World) (hR : RegT.Grow w.drew W) => (World.cell?_of_block (w := w) (a := ⟨g, 1, none⟩) (hR.block g H.out.lt)).trans H.out.c1)
  have Hg2 := Lib.hid (fun (W : World) (hR : RegT.Grow w.drew W) => (World.cell?_of_block (w := w) (a := ⟨g, 2, none⟩) (hR.block g H.out.lt)).trans H.out.c2)
  apply RegT.wp_region_T rfl 18 13 rfl (by kernel_rfl) RegT.Grow RegT.Grow.refl RegT.Grow.trans
  · iterate 2
      apply RegT.T_pure rfl rfl rfl
      · intro W hR; go_simp; rfl
      simp only [List.set_cons_succ, List.set_cons_zero, Nat.reduceAdd]
    apply RegT.T_pure (v := .pointer (some ⟨g, 0, none⟩)) rfl rfl rfl
    · intro W hR; clear hR; go_simp
    simp only [List.set_cons_succ, List.set_cons_zero, Nat.reduceAdd]
    apply RegT.T_pure (v := .int .u64 (B : Int)) rfl rfl rfl
    · intro W hR
      have hc := Hg0.out W hR
      clear hR
      go_simp
    simp only [List.set_cons_succ, List.set_cons_zero, Nat.reduceAdd]
    iterate 2
      apply RegT.T_pure rfl rfl rfl
      · intro W hR; go_simp; rfl
      simp only [List.set_cons_succ, List.set_cons_zero, Nat.reduceAdd]
    apply RegT.T_pure (v := .pointer (some ⟨g, 1, none⟩)) rfl rfl rfl
    · intro W hR; clear hR; go_simp
    simp only [List.set_cons_succ, List.set_cons_zero, Nat.reduceAdd]
    apply RegT.T_pure (v := .int .u64 (T : Int)) rfl rfl rfl
    · intro W hR
      have hc := Hg1.out W hR
      clear hR
      go_simp
    simp only [List.set_cons_succ, List.set_cons_zero, Nat.reduceAdd]
    iterate 2
      apply RegT.T_pure rfl rfl rfl
      · intro W hR; go_simp; rfl
      simp only [List.set_cons_succ, List.set_cons_zero, Nat.reduceAdd]
    apply RegT.T_pure (v := .pointer (some ⟨g, 2, none⟩)) rfl rfl rfl
    · intro W hR; clear hR; go_simp
    simp only [List.set_cons_succ, List.set_cons_zero, Nat.reduceAdd]
    apply RegT.T_pure (v := v) rfl rfl rfl
    · intro W hR
      have hc := Hg2.out W hR
      clear hR
      go_simp
    simp only [List.set_cons_succ, List.set_cons_zero, Nat.reduceAdd]
    apply RegT.T_pred rfl rfl rfl (NewTk w.heap.size B T es) (fun _ _ h => h) (fun y x z hR h => h.keeps hR.block)
    · intro W hR hf
      have hsz : w.heap.size ≤ W.heap.size := hR.size
      have Hc := Lib.hid (Hnew.out W (H.out.own.rd.keeps ((Keeps.refl w).drew.trans hR.block)))
      clear hR hf
      go_simp
      exact RegT.OpOK_enter Hc.out (fun e w' ⟨he, ⟨v', ht⟩, hB⟩ => ⟨_, he, ⟨_, v', rfl, hsz, ht.mono fun b _ hb => Nat.le_trans hsz hb⟩, hB⟩)
    intro vA
    simp only [List.set_cons_succ, List.set_cons_zero, Nat.reduceAdd]
    refine RegT.T_tail (fun W hR hf => ?_)
    have hy : NewTk w.heap.size B T es vA W := hf _ (.head _) (.inl rfl)
    obtain ⟨N, v', rfl, hN, ht⟩ := hy
    have Hy := Lib.hid ht
    have HTo := Lib.hid (show Below w.heap.size w W from (Below.refl w.heap.size w).drew.trans hR)
    clear hR hf ht
    simp only [List.drop_succ_cons, List.drop_zero]
    go_wp2
    go_ret
    exact ⟨_, _, rfl, hN, Hy.out, HTo.out⟩
  · rfl
  · kernel_rfl
end Go.Proofs.Yteellfgiejnigaa
