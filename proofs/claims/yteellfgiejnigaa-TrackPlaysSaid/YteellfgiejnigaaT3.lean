/- The walk of Add. -/
import Derived.Test.YteellfgiejnigaaT2
import Derived.Lib.BufferOwn
namespace Go.Proofs.Yteellfgiejnigaa
open Go.ChangeShapes Go.WideShapes Go.ChangeAt Go.RowKit
set_option linter.unusedVariables false

def RegR (u : Value) (S0 : Foot) (B0 : Nat) (es : List Ent) (x y : World) : Prop := Touch (fun b => u.ownBlock = some b ∨ B0 ≤ b) x y ∧ (EsG x S0 53 u es → EsG y S0 53 u es)
theorem RegR.refl (u : Value) (S0 : Foot) (B0 : Nat) (es : List Ent) (x : World) : RegR u S0 B0 es x x := ⟨Touch.refl _ _, id⟩
theorem RegR.trans (u : Value) (S0 : Foot) (B0 : Nat) (es : List Ent) (x y z : World) (h : RegR u S0 B0 es x y) (k : RegR u S0 B0 es y z) : RegR u S0 B0 es x z := ⟨h.1.trans k.1 fun _ _ e => e, fun e => k.2 (h.2 e)⟩
theorem RegR.grow (u : Value) (S0 : Foot) (B0 : Nat) (es : List Ent) (x y : World) (h : RegT.Grow x y) : RegR u S0 B0 es x y := ⟨Touch.of_below h, fun e => e.keeps h.block⟩
theorem row2 {W : World} {g : Nat} {a b c : Value} {t : TypeId} (h : W.heap[g]? = some (.cells #[a, b, c] t)) : W.cell? ⟨g, 2, none⟩ = some c := by rw [cell_of_row _ _ _ _ _ _ h]; rfl
theorem ent_cells {W : World} {N t : Nat} {d : Value} (h : EntAt W N t d) : ∀ j u, [Value.int .u64 (t : Int), d][j]? = some u → W.cell? ((⟨N, 0, none⟩ : Addr).add j) = some u := by
  intro j u hu
  rw [Addr.add_lit, cell_of_row _ _ _ _ _ _ h, Nat.zero_add]
  simpa using hu
theorem load_ent {o : Oper} {e : Operand → Value} {W : World} {N t : Nat} {d : Value} (x : Operand) (ho : o.op = .load 53 x) (hx : e x = .pointer (some ⟨N, 0, none⟩)) (h : EntAt W N t d) :
    (execOp e o).run Try.prog W = .ok (.value (.agg #[.int .u64 (t : Int), d])) W := by
  have hl := run_loadVar_row (P := Try.prog) W N 53 53 #[.int .u64 (t : Int), d] (0, 0) _ h Try.underlying53 rfl (show _ = some 2 by kernel_rfl)
  unfold execOp
  simp only [ho, hx, Instr.loadAt, Instr.sureAddr, Sem.run_bind, Sem.run_pure, Result.andThen_ok, hl]
/-- A copy of an entry, in memory from block B0 on. -/
def CopyOf (t : Nat) (l : List UInt8) (B0 : Nat) (y : Value) (W : World) : Prop := ∃ p c, y = .agg #[.int .u64 (t : Int), .slice p l.length c] ∧ DatA W (fun b => B0 ≤ b) (.slice p l.length c) l
theorem CopyOf.keeps {t : Nat} {l : List UInt8} {B0 : Nat} {y : Value} {W W' : World} (h : CopyOf t l B0 y W) (hk : Keeps W W') : CopyOf t l B0 y W' := by
  obtain ⟨p, c, rfl, hd⟩ := h; exact ⟨p, c, rfl, hd.keeps hk⟩
/-- A row of one such copy. -/
def RowOf (t : Nat) (l : List UInt8) (B0 : Nat) (y : Value) (W : World) : Prop := ∃ N p c, y = .slice (some ⟨N, 0, none⟩) 1 1 ∧ EntAt W N t (.slice p l.length c) ∧ DatA W (fun b => B0 ≤ b) (.slice p l.length c) l
theorem RowOf.keeps {t : Nat} {l : List UInt8} {B0 : Nat} {y : Value} {W W' : World} (h : RowOf t l B0 y W) (hk : Keeps W W') : RowOf t l B0 y W' := by
  obtain ⟨N, p, c, rfl, he, hd⟩ := h; exact ⟨N, p, c, rfl, he.keeps hk, hd.keeps hk⟩

set_option maxRecDepth 100000 in
set_option maxHeartbeats 3200000 in
theorem add_w (S R : Foot) (g B T : Nat) (v sv : Value) (es ss : List Ent) (w : World) (h : TkAt w S g B T v es) (hr : EsR w R sv ss) (hd : ∀ b, b < w.heap.size → R b → S b → False)
    (hn : es.length + ss.length ≤ 1000000) (hl : ∀ e ∈ ss, e.2.length ≤ 1000000) :
    Calls Try.prog 27 #[.pointer (some ⟨g, 0, none⟩), sv] w fun r w' => (∃ x, r = .returned x) ∧ ∃ v', TkAt w' (fun b => S b ∨ w.heap.size ≤ b) g B T v' (es ++ ss.take (18446744073709551615 - (B + es.length))) ∧ Touch S w w' := by
  obtain ⟨p0, c0, rfl⟩ : ∃ p c, sv = .slice p ss.length c := by obtain ⟨p, c, xs, h1, _⟩ := hr; exact ⟨p, c, h1⟩
  have H := Lib.hid h
  have Hr := Lib.hid (hr.mono (S' := fun b => R b ∧ b < w.heap.size) fun b hb hR => ⟨hR, hb⟩)
  have Hd := Lib.hid hd
  have Hl := Lib.hid hl
  have hglt := h.lt
  have hsl : ss.length ≤ 1000000 := by omega
  have Hn := Lib.hid hn
  clear h hr hd hl hn
  go_enter Try.func27, Try.ntmps27
  go_wp2
  go_loopw [10] (fun i wr => ∃ (k : Nat) (u : Value), k ≤ ss.length ∧ i = .int .i64 (k : Int) ∧ Hid (k ≤ 18446744073709551615 - (B + es.length)) ∧ Hid (TkAt wr (fun b => S b ∨ w.heap.size ≤ b) g B T u (es ++ ss.take k)) ∧ Hid (Touch S w wr)) (fun i _ => ss.length - (intOf i).toNat)
  case atStart => exact ⟨0, v, Nat.zero_le _, rfl, Lib.hid (Nat.zero_le _), Lib.hid (by rw [List.take_zero, List.append_nil]; exact H.out.mono fun b _ hb => .inl hb), Lib.hid (Touch.refl _ _)⟩
  case round =>
    obtain ⟨k, u, hk, rfl, HK, HT, HW⟩ := hrel
    by_cases hlt : k < ss.length
    · have HR := Lib.hid (Hr.out.frame (fun b hb => HW.out.block b hb.2 fun e => Hd.out b hb.2 hb.1 e))
      obtain ⟨b, off, n, c, d, hsv, hnn, hrange, hda, htl⟩ := HR.out.elem k hlt
      cases hsv
      have Hra := Lib.hid hrange
      have Hda := Lib.hid hda
      have Htl := Lib.hid htl
      have Hes := Lib.hid (show ss.take (k + 1) = ss.take k ++ [(ss[k].1, ss[k].2)] by rw [List.take_succ_eq_append_getElem hlt])
      have hll := Hl.out ss[k] (List.getElem_mem _)
      have hlen : (es ++ ss.take k).length = es.length + k := by rw [List.length_append, List.length_take, Nat.min_eq_left hk]
      have Hlen := Lib.hid hlen
      have HZ := Lib.hid (heap_alloc_new wr (.cells #[.int .u64 0, .slice none 0 0] 53))
      generalize ss[k].1 = t at *
      generalize ss[k].2 = l at *
      obtain ⟨pd, cd, rfl⟩ : ∃ p c, d = .slice p l.length c := by obtain ⟨p, c, h1, _⟩ := hda.rd; exact ⟨p, c, h1⟩
      obtain ⟨pu, nu, cu, rfl⟩ : ∃ p n c, u = .slice p n c := by obtain ⟨p, c, e⟩ := HT.out.own.form; exact ⟨p, _, c, e⟩
      obtain ⟨W2, HW2, hE, hB2⟩ := stored53 wr t (.slice pd l.length cd)
      have HE := Lib.hid hE
      have HB2 := Lib.hid hB2
      have HT2 := Lib.hid (HT.out.keeps hB2.block)
      have hg2 : g < wr.heap.size := HT.out.lt
      have Hlast := Lib.hid (last_w _ g B T _ _ W2 HT2.out)
      rw [Hlen.out] at Hlast
      have hfit := HT.out.fits
      rw [hlen] at hfit
      clear hrange hda htl hlen hE hB2
      by_cases htop : B + (es.length + k) = 18446744073709551615
      · have hdec : ((((B + (es.length + k) : Nat) : Int)) == 18446744073709551615) = true := by simp; omega
        have hdec2 : decide ((((B + (es.length + k) : Nat) : Int)) = 18446744073709551615) = true := by simp; omega
        have hkk : k = 18446744073709551615 - (B + es.length) := by omega
        have Hkk := Lib.hid hkk
        clear hkk
        generalize B + (es.length + k) = L at *
        go_wp2_with (first
          | (refine wpList_load_mid rfl 53 (.tmp 12) rfl _ _ rfl [.int .u64 (t : Int), .slice pd l.length cd] _ Hra.out Try.underlying53 rfl (show _ = some 2 by kernel_rfl) ?_)
          | (refine wpList_alloc_zero rfl 53 rfl _ hz53 ?_)
          | (refine wpList_store_rowTo rfl 53 (.tmp 5) (.tmp 13) rfl rfl _ #[.int .u64 (t : Int), .slice pd l.length cd] rfl rfl 53 #[.int .u64 0, .slice none 0 0] HZ.out (show _ = some 2 by kernel_rfl) rfl (ent_one _ _ _ _) ?_; rw [HW2.out])
          | (go_at_call 76; refine (Hlast.out).mono ?_; rintro r w3 ⟨rfl, hB⟩; have HB3 := Lib.hid hB; clear hB))
        refine bodyPost_ret (results_none rfl _ _ _) rfl ?_
        refine ⟨⟨_, rfl⟩, .slice pu nu cu, ?_, HW.out.trans (Touch.of_below (HB2.out.trans (HB3.out.mono HB2.out.size))) (S := S) (S1 := S) (fun b _ e => e)⟩
        rw [← Hkk.out]
        exact HT2.out.keeps HB3.out.block
      · have hdec : ((((B + (es.length + k) : Nat) : Int)) == 18446744073709551615) = false := by simp; omega
        have hdec2 : decide ((((B + (es.length + k) : Nat) : Int)) = 18446744073709551615) = false := by simp; omega
        have Hkk := Lib.hid (show k + 1 ≤ 18446744073709551615 - (B + es.length) by omega)
        have Hfit := Lib.hid (show B + (es.length + k) + 1 < 2 ^ 64 by omega)
        clear htop hfit
        generalize hL : B + (es.length + k) = L at *
        go_wp2_with (first
          | (refine wpList_load_mid rfl 53 (.tmp 12) rfl _ _ rfl [.int .u64 (t : Int), .slice pd l.length cd] _ Hra.out Try.underlying53 rfl (show _ = some 2 by kernel_rfl) ?_)
          | (refine wpList_alloc_zero rfl 53 rfl _ hz53 ?_)
          | (refine wpList_store_rowTo rfl 53 (.tmp 5) (.tmp 13) rfl rfl _ #[.int .u64 (t : Int), .slice pd l.length cd] rfl rfl 53 #[.int .u64 0, .slice none 0 0] HZ.out (show _ = some 2 by kernel_rfl) rfl (ent_one _ _ _ _) ?_; rw [HW2.out])
          | (go_at_call 76; refine (Hlast.out).mono ?_; rintro r w3 ⟨rfl, hB⟩; have HB3 := Lib.hid hB; clear hB))
        have HT3 := Lib.hid (HT2.out.keeps HB3.out.block)
        have hw3 : wr.heap.size ≤ w3.heap.size := Nat.le_trans HB2.out.size HB3.out.size
        have hNlt : wr.heap.size < w3.heap.size := Nat.lt_of_lt_of_le HE.out.lt HB3.out.size
        have hg3 : g < w3.heap.size := by omega
        have hww : w.heap.size ≤ wr.heap.size := HW.out.size
        have hug : ∀ x, (Value.slice pu nu cu).ownBlock = some x → x ≠ g ∧ x < wr.heap.size := fun x e => ⟨(HT.out.own.foot x e).1.2, (HT.out.own.foot x e).2⟩
        have Hug := Lib.hid hug
        clear hug
        have HDat := Lib.hid (fun (W : World) (hR : Touch (fun b => (Value.slice pu nu cu).ownBlock = some b ∨ w3.heap.size ≤ b) w3.drew W) => (show RdB W (.slice pd l.length cd) l from
          Hda.out.rd.same fun x e hne => by
            have hx := Hda.out.foot x e hne
            have hxl := Hda.out.lt x e hne
            rw [hR.block x (by show x < w3.heap.size; omega) (fun e2 => by
              rcases e2 with e2 | e2
              · rcases (HT.out.own.foot x e2).1.1 with e3 | e3
                · exact Hd.out x hx.2 hx.1 e3
                · have := hx.2; omega
              · omega)]
            exact (HB3.out.block x (Nat.lt_of_lt_of_le hxl HB2.out.size)).trans (HB2.out.block x hxl)))
        have Hcell := Lib.hid (fun (W : World) (hR : Touch (fun b => (Value.slice pu nu cu).ownBlock = some b ∨ w3.heap.size ≤ b) w3.drew W) => (show W.heap[g]? = some (.cells #[.int .u64 (B : Int), .int .u64 (T : Int), .slice pu nu cu] 67) from by
          rw [hR.block g hg3 (fun e => by rcases e with e | e; · exact (Hug.out g e).1 rfl
                                          · omega)]
          exact HT3.out.cells))
        have Hent := Lib.hid (fun (W : World) (hR : Touch (fun b => (Value.slice pu nu cu).ownBlock = some b ∨ w3.heap.size ≤ b) w3.drew W) => (show EntAt W wr.heap.size t (.slice pd l.length cd) from by
          unfold EntAt
          rw [hR.block _ hNlt (fun e => by rcases e with e | e; · have := (Hug.out _ e).2; omega
                                           · omega)]
          exact HE.out.keeps HB3.out.block))
        apply RegT.wp_region_T rfl 29 11 rfl (by kernel_rfl) (RegR (.slice pu nu cu) (fun b => (S b ∨ w.heap.size ≤ b) ∧ b ≠ g) w3.heap.size (es ++ ss.take k)) (RegR.refl _ _ _ _) (RegR.trans _ _ _ _)
        · iterate 3
            apply RegT.T_pure rfl rfl rfl
            · intro W hR; go_simp; rfl
            simp only [List.set_cons_succ, List.set_cons_zero, Nat.reduceAdd]
          apply RegT.T_pure (v := .pointer (some ⟨g, 2, none⟩)) rfl rfl rfl
          · intro W hR; clear hR; go_simp
          simp only [List.set_cons_succ, List.set_cons_zero, Nat.reduceAdd]
          apply RegT.T_pure (v := .slice pu nu cu) rfl rfl rfl
          · intro W hR
            have hc := row2 (Hcell.out W hR.1)
            clear hR
            go_simp
          simp only [List.set_cons_succ, List.set_cons_zero, Nat.reduceAdd]
          apply RegT.T_pure (v := .agg #[.int .u64 (t : Int), .slice pd l.length cd]) rfl rfl rfl
          · exact fun W hR => load_ent (.tmp 5) rfl rfl (Hent.out W hR.1)
          simp only [List.set_cons_succ, List.set_cons_zero, Nat.reduceAdd]
          apply RegT.T_predC rfl rfl rfl 7 (CopyOf t l w3.heap.size) (RegR.grow _ _ _ _) (fun y x z hR h => h.keeps hR.block)
          · intro W hR hf
            have hsz := hR.1.size
            have Hc := Lib.hid (copied_w t (.slice pd l.length cd) l W (HDat.out W hR.1) (by omega))
            clear hR hf
            go_simp
            exact RegT.OpOK_enter Hc.out (fun e w' ⟨p, c, he, hd, hB⟩ => ⟨_, he, ⟨p, c, rfl, hd.mono fun b _ hb => Nat.le_trans hsz hb⟩, hB⟩)
          intro v6
          simp only [List.set_cons_succ, List.set_cons_zero, Nat.reduceAdd]
          apply RegT.T_predC rfl rfl rfl 8 (RowOf t l w3.heap.size) (RegR.grow _ _ _ _) (fun y x z hR h => h.keeps hR.block)
          · intro W hR hf
            obtain ⟨p, c, rfl, hd⟩ := hf _ (.head _) (by kernel_rfl) (.inr rfl)
            clear hR hf
            go_simp
            exact RegT.OpOK_value ⟨⟨_, p, c, rfl, EntAt.new _ _ _, hd.keeps ((Keeps.refl W).alloc _)⟩, (Below.refl _ _).alloc (Nat.le_refl _) _⟩
          intro v7
          simp only [List.set_cons_succ, List.set_cons_zero, Nat.reduceAdd]
          apply RegT.T_write rfl rfl rfl none (fun y W => EsG W (fun b => (S b ∨ w.heap.size ≤ b) ∧ b ≠ g) 53 y (es ++ ss.take (k + 1))) (fun y x z hR h => h.keeps hR.block)
          · intro W hR hf
            obtain ⟨N, p, c, rfl, he, hd⟩ := hf _ (.head _) (by kernel_rfl) (.inr rfl)
            have hsz : w3.heap.size ≤ W.heap.size := hR.1.size
            obtain ⟨v', w', hr, ho', hg, _, hold⟩ := run_append_esg (P := Try.prog) (ty := 28) (c := 1) (S' := fun b => (S b ∨ w.heap.size ≤ b) ∧ b ≠ g) helE (hR.2 (HT3.out.own.keeps (Keeps.refl w3).drew)) (EsC.cons Htl.out (hd.mono fun b _ hb => (⟨⟨.inr (Nat.le_trans hww (Nat.le_trans hw3 hb)), fun e => by have hb2 : w3.heap.size ≤ b := hb; omega⟩, fun e => by have hb2 : w3.heap.size ≤ b := hb; have := (Hug.out b e).2; omega⟩ : ((S b ∨ w.heap.size ≤ b) ∧ b ≠ g) ∧ (Value.slice pu nu cu).ownBlock ≠ some b)) .nil) (.inr ⟨⟨N, 0, none⟩, rfl, ent_cells he⟩)
              (by rw [Hlen.out]; have := Hn.out; unfold maxLen; simp; omega) (by rw [Hlen.out]; have := Hn.out; simp; omega) (fun b hb => hb) ⟨.inr (by omega), by omega⟩
            refine append_ok (.tmp 21) (.tmp 24) rfl rfl rfl hr ⟨?_, ⟨Touch.of_grownBy hg fun b e => .inl e, fun _ => hold⟩⟩
            rw [Hes.out, ← List.append_assoc]; exact ho'
          intro v8
          simp only [List.set_cons_succ, List.set_cons_zero, Nat.reduceAdd]
          iterate 1
            apply RegT.T_pure rfl rfl rfl
            · intro W hR; go_simp; rfl
            simp only [List.set_cons_succ, List.set_cons_zero, Nat.reduceAdd]
          apply RegT.T_pure (v := .pointer (some ⟨g, 2, none⟩)) rfl rfl rfl
          · intro W hR; clear hR; go_simp
          simp only [List.set_cons_succ, List.set_cons_zero, Nat.reduceAdd]
          refine RegT.T_tail (fun W hR hf => ?_)
          have hy : EsG W (fun b => (S b ∨ w.heap.size ≤ b) ∧ b ≠ g) 53 v8 (es ++ ss.take (k + 1)) := hf _ (.head _) (.inl rfl)
          obtain ⟨p8, n8, c8, rfl⟩ : ∃ p n c, v8 = .slice p n c := by obtain ⟨p, c, e⟩ := hy.form; exact ⟨p, _, c, e⟩
          have Hy := Lib.hid hy
          have hcl := Hcell.out W hR.1
          have HTW := Lib.hid (show TkAt W (fun b => S b ∨ w.heap.size ≤ b) g B T (.slice pu nu cu) (es ++ ss.take k) from ⟨hcl, HT3.out.foot, hR.2 (HT3.out.own.keeps (Keeps.refl w3).drew), HT3.out.bB, HT3.out.bT, HT3.out.fits⟩)
          have hc2 := HTW.out.c2
          have hf2 := HTW.out.frozen 2
          have HTo := Lib.hid (show Touch S w W from by
            refine (HW.out.trans (Touch.of_below (HB2.out.trans (HB3.out.mono HB2.out.size))) (S := S) (S1 := S) (fun b _ e => e)).trans (S1 := fun b => (Value.slice pu nu cu).ownBlock = some b ∨ w3.heap.size ≤ b) (w1 := w3) ⟨hR.1.os, hR.1.tape, hR.1.output, hR.1.size, hR.1.block⟩ fun b hb e => ?_
            rcases e with e | e
            · rcases (HT.out.own.foot b e).1.1 with e3 | e3
              · exact e3
              · omega
            · have := HW.out.size; omega)
          clear hR hf hy hcl
          simp only [List.drop_succ_cons, List.drop_zero]
          go_wp2
          go_roundw
          case rel =>
            refine ⟨k + 1, _, by omega, by go_num, Lib.hid Hkk.out, Lib.hid (HTW.out.put HTW.out.foot Hy.out ?_), Lib.hid (HTo.out.trans (Touch.of_grownBy (S := fun b => b = g) (Lib.grownBy_setCell W g 2 _) (fun b e => by cases e; rfl)) fun b _ e => by subst e; exact H.out.foot)⟩
            have h1 := Hfit.out
            rw [List.length_append, List.length_take, Nat.min_eq_left (by omega : k + 1 ≤ ss.length)]
            omega
          case measure => simp [intOf]; omega
        · rfl
        · kernel_rfl
    · have hk2 : k = ss.length := by omega
      subst hk2
      go_wp2
      go_end0
      refine ⟨⟨_, rfl⟩, u, ?_, HW.out⟩
      have h1 := HT.out
      rw [List.take_length] at h1
      rw [List.take_of_length_le HK.out]
      exact h1
end Go.Proofs.Yteellfgiejnigaa
