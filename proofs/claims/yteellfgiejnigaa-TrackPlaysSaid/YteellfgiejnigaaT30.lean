/- The walk of the law's same: all that is told of two tracks that are alike. -/
import Derived.Test.YteellfgiejnigaaT28
import Derived.Test.YteellfgiejnigaaT15
import Derived.Test.YteellfgiejnigaaT21
namespace Go.Proofs.Yteellfgiejnigaa
open Go.ChangeShapes Go.WideShapes Go.ChangeAt Go.RowKit
set_option linter.unusedVariables false

theorem tip_at {B T : Nat} {es : List Ent} : (termAt B T es (B + es.length)).1 = tipT T es := by
  unfold termAt
  rw [if_neg (by omega)]
  rcases Nat.eq_zero_or_pos es.length with h | h
  · have : es = [] := List.eq_nil_of_length_eq_zero h
    subst this
    rw [if_pos (by simp)]; rfl
  · rw [if_neg (by omega)]
    show (es.getD (B + es.length - B - 1) (0, [])).1 = _
    rw [show B + es.length - B - 1 = es.length - 1 by omega]
    unfold tipT
    rw [List.getLast?_eq_getElem?, List.getD_eq_getElem?_getD, List.getElem?_eq_getElem (by omega)]
    rfl
theorem slice_told {B B1 : Nat} {es : List Ent} (hfit : B + es.length < 2 ^ 64) (hB : B1 = (B + 1) % 2 ^ 64) : sliceR B es B1 ((es.length + 1 : Nat) : Int) = es := by
  unfold sliceR
  by_cases h0 : es.length = 0
  · have : es = [] := List.eq_nil_of_length_eq_zero h0
    subst this
    split <;> simp
  · have hb : B1 = B + 1 := by rw [hB, Nat.mod_eq_of_lt (by omega)]
    rw [if_neg (by omega), show B1 - B - 1 = 0 by omega, List.drop_zero, List.take_of_length_le (by omega)]

set_option maxRecDepth 100000 in
set_option maxHeartbeats 3200000 in
theorem sameall_w (S R : Foot) (g r B T : Nat) (v u : Value) (es : List Ent) (w : World) (h : TkAt w S g B T v es) (k : RkAt w R r B T u es) (hn : es.length ≤ 1000000) (hl : ∀ e ∈ es, e.2.length ≤ 1000000) :
    Calls Try.prog 41 #[.pointer (some ⟨g, 0, none⟩), .pointer (some ⟨r, 0, none⟩)] w fun e w' => e = .returned (.bool true) ∧ Below w.heap.size w w' := by
  have H := Lib.hid h
  have K := Lib.hid k
  obtain ⟨pk, ck, rfl⟩ := k.own.form
  have hfit := h.fits
  have Hl := Lib.hid hl
  obtain ⟨L, hL⟩ : ∃ L, L = B + es.length := ⟨_, rfl⟩
  have hL64 : L < 2 ^ 64 := by omega
  have Hbase := Lib.hid (base_w S g B T v es w h)
  have Htip := Lib.hid (fun W hW => tip_w S g B T v es W hW hn)
  have Hlast := Lib.hid (fun W (hW : RkAt W R r B T (.slice pk es.length ck) es) => rlast_w R r B T _ es W hW)
  have Hat := Lib.hid (fun W (hW : RkAt W R r B T (.slice pk es.length ck) es) => rtermat_w R r B T _ es L W hW hn hL64)
  have hta : (termAt B T es L).1 = tipT T es := by rw [hL]; exact tip_at
  rw [← hL] at Htip Hlast
  rw [hta] at Hat
  generalize (termAt B T es L).2 = tb at *
  generalize tipT T es = tt at *
  obtain ⟨B1, hB1⟩ : ∃ B1, B1 = (B + 1) % 2 ^ 64 := ⟨_, rfl⟩
  have hB1l : B1 < 2 ^ 64 := by omega
  have e1 : IntKind.u64.wrap ((B : Int) + 1) = (B1 : Int) := by rw [IntKind.wrap_u64]; omega
  have e2 : IntKind.i64.wrap ((es.length : Int) + 1) = ((es.length + 1 : Nat) : Int) := by rw [IntWalk.i64_in _ (by omega)]; omega
  have hsl := slice_told (es := es) hfit hB1
  have Hsl := Lib.hid (fun W (hW : TkAt W S g B T v es) => slice_eq_w S g B T B1 ((es.length + 1 : Nat) : Int) v es es W hW hn hl hB1l (by omega) hsl)
  clear h k hfit hl hL hta hB1 hsl
  go_enter Try.func41, Try.ntmps41
  go_wp2_with (first
    | (go_at_call 42; refine (Hbase.out).mono ?_; rintro e w1 ⟨rfl, hB⟩; have HB1 := Lib.hid hB; have H1 := Lib.hid (H.out.keeps hB.block); have K1 := Lib.hid (K.out.keeps hB.block); clear hB Hbase)
    | (go_at_call 23; refine (Htip.out _ H1.out).mono ?_; rintro e w2 ⟨rfl, hB⟩; have HB2 := Lib.hid (HB1.out.trans (hB.mono HB1.out.size)); have H2 := Lib.hid (H1.out.keeps hB.block); have K2 := Lib.hid (K1.out.keeps hB.block); clear hB Htip)
    | (go_at_call 80; refine (Hlast.out _ K2.out).mono ?_; rintro e w3 ⟨rfl, hB⟩; have HB3 := Lib.hid (HB2.out.trans (hB.mono HB2.out.size)); have H3 := Lib.hid (H2.out.keeps hB.block); have K3 := Lib.hid (K2.out.keeps hB.block); clear hB)
    | (go_at_call 38; refine (Hat.out _ K3.out).mono ?_; rintro e w4 ⟨rfl, hB⟩; have HB4 := Lib.hid (HB3.out.trans (hB.mono HB3.out.size)); have H4 := Lib.hid (H3.out.keeps hB.block); have K4 := Lib.hid (K3.out.keeps hB.block); clear hB Hat))
  have Hg0 := Lib.hid (fun (W : World) (hR : RegT.Grow w4.drew W) => (World.cell?_of_block (w := w4) (a := ⟨r, 0, none⟩) (hR.block r K4.out.lt)).trans K4.out.c0)
  have Hg2 := Lib.hid (fun (W : World) (hR : RegT.Grow w4.drew W) => (World.cell?_of_block (w := w4) (a := ⟨r, 2, none⟩) (hR.block r K4.out.lt)).trans K4.out.c2)
  apply RegT.wp_region_T rfl 86 13 rfl (by kernel_rfl) RegT.Grow RegT.Grow.refl RegT.Grow.trans
  · iterate 3
      apply RegT.T_pure rfl rfl rfl
      · intro W hR; go_simp; rfl
      simp only [List.set_cons_succ, List.set_cons_zero, Nat.reduceAdd]
    apply RegT.T_pure (v := .pointer (some ⟨r, 0, none⟩)) rfl rfl rfl
    · intro W hR; clear hR; go_simp
    simp only [List.set_cons_succ, List.set_cons_zero, Nat.reduceAdd]
    apply RegT.T_pure (v := .int .u64 (B : Int)) rfl rfl rfl
    · intro W hR
      have hc := Hg0.out W hR
      clear hR
      go_simp
    simp only [List.set_cons_succ, List.set_cons_zero, Nat.reduceAdd]
    apply RegT.T_pure (v := .int .u64 (B1 : Int)) rfl rfl rfl
    · intro W hR; clear hR; go_simp
    simp only [List.set_cons_succ, List.set_cons_zero, Nat.reduceAdd]
    iterate 2
      apply RegT.T_pure rfl rfl rfl
      · intro W hR; go_simp; rfl
      simp only [List.set_cons_succ, List.set_cons_zero, Nat.reduceAdd]
    apply RegT.T_pure (v := .pointer (some ⟨r, 2, none⟩)) rfl rfl rfl
    · intro W hR; clear hR; go_simp
    simp only [List.set_cons_succ, List.set_cons_zero, Nat.reduceAdd]
    apply RegT.T_pure (v := .slice pk es.length ck) rfl rfl rfl
    · intro W hR
      have hc := Hg2.out W hR
      clear hR
      go_simp
    simp only [List.set_cons_succ, List.set_cons_zero, Nat.reduceAdd]
    apply RegT.T_pure (v := .int .i64 (es.length : Int)) rfl rfl rfl
    · intro W hR; clear hR; go_simp
    simp only [List.set_cons_succ, List.set_cons_zero, Nat.reduceAdd]
    apply RegT.T_pure (v := .int .i64 ((es.length + 1 : Nat) : Int)) rfl rfl rfl
    · intro W hR; clear hR; go_simp
    simp only [List.set_cons_succ, List.set_cons_zero, Nat.reduceAdd]
    apply RegT.T_pred rfl rfl rfl (fun y W => EsG W (fun b => w4.heap.size ≤ b) 53 y es) (fun _ _ h => h) (fun y x z hR h => h.keeps hR.block)
    · intro W hR hf
      have hsz : w4.heap.size ≤ W.heap.size := hR.size
      have Hc := Lib.hid (Hsl.out W (H4.out.keeps ((Keeps.refl w4).drew.trans hR.block)))
      clear hR hf
      go_simp
      exact RegT.OpOK_enter Hc.out (fun e w' ⟨x, he, hx, hB⟩ => ⟨_, he, hx.mono fun b _ hb => Nat.le_trans hsz hb, hB⟩)
    intro vA
    simp only [List.set_cons_succ, List.set_cons_zero, Nat.reduceAdd]
    refine RegT.T_tail (fun W hR hf => ?_)
    have hy : EsG W (fun b => w4.heap.size ≤ b) 53 vA es := hf _ (.head _) (.inl rfl)
    obtain ⟨p8, n8, c8, rfl⟩ : ∃ p n c, vA = .slice p n c := by obtain ⟨p, c, e⟩ := hy.form; exact ⟨p, _, c, e⟩
    have HY := Lib.hid hy
    have HB5 := Lib.hid (HB4.out.trans (((Below.refl w4.heap.size w4).drew.trans hR).mono HB4.out.size))
    have K5 := Lib.hid (K4.out.keeps ((Keeps.refl w4).drew.trans hR.block))
    have hsz5 : w4.heap.size ≤ W.heap.size := hR.size
    have c0 := K5.out.c0
    have c1 := K5.out.c1
    have c2 := K5.out.c2
    clear hR hf hy
    simp only [List.drop_succ_cons, List.drop_zero]
    by_cases hmax : B = 18446744073709551615
    · have d1 : ((B : Int) == 18446744073709551615) = true := by simp; omega
      have d2 : decide ((B : Int) = 18446744073709551615) = true := by simp; omega
      clear hmax
      go_wp2_with (first
        | (go_at_call 80; refine (Hlast.out _ K5.out).mono ?_; rintro e w6 ⟨rfl, hB⟩; have HB6 := Lib.hid (HB5.out.trans (hB.mono HB5.out.size)); have HY6 := Lib.hid (HY.out.keeps hB.block); have K6 := Lib.hid (K5.out.keeps hB.block); have c0 := K6.out.c0; have c2 := K6.out.c2; clear hB)
        | (go_at_call 32; refine (spoil_w _ _ _ _ HY6.out hn (fun e he => Nat.le_trans (Hl.out e he) (by decide))).mono ?_; rintro e w7 ⟨⟨x7, rfl⟩, hto⟩; have HB7 := Lib.hid (HB6.out.trans (hto.below HB6.out.size (fun b hb => Nat.le_trans HB4.out.size hb))); clear hto))
      go_ret
      exact ⟨rfl, HB7.out⟩
    · have d1 : ((B : Int) == 18446744073709551615) = false := by simp; omega
      have d2 : decide ((B : Int) = 18446744073709551615) = false := by simp; omega
      clear hmax
      go_wp2_with (first
        | (go_at_call 80; refine (Hlast.out _ K5.out).mono ?_; rintro e w6 ⟨rfl, hB⟩; have HB6 := Lib.hid (HB5.out.trans (hB.mono HB5.out.size)); have HY6 := Lib.hid (HY.out.keeps hB.block); have K6 := Lib.hid (K5.out.keeps hB.block); have c0 := K6.out.c0; have c2 := K6.out.c2; clear hB)
        | (go_at_call 29; refine (same_w _ _ _ _ es es _ HY6.out.rd K6.out.own.rd hn).mono ?_; rintro e w8 ⟨he, hB⟩; rw [decide_eq_true rfl] at he; subst he; have HB8 := Lib.hid (HB6.out.trans (hB.mono HB6.out.size)); have HY8 := Lib.hid (HY6.out.keeps hB.block); clear hB)
        | (go_at_call 32; refine (spoil_w _ _ _ _ HY8.out hn (fun e he => Nat.le_trans (Hl.out e he) (by decide))).mono ?_; rintro e w7 ⟨⟨x7, rfl⟩, hto⟩; have HB7 := Lib.hid (HB8.out.trans (hto.below HB8.out.size (fun b hb => Nat.le_trans HB4.out.size hb))); clear hto))
      go_ret
      exact ⟨rfl, HB7.out⟩
  · rfl
  · kernel_rfl
end Go.Proofs.Yteellfgiejnigaa
