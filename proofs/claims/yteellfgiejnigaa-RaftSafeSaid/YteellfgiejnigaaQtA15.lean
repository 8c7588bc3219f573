/- RaftSafe: L3. -/
import Derived.Test.YteellfgiejnigaaQtA00
import Derived.Test.YteellfgiejnigaaQtA01
import Derived.Test.YteellfgiejnigaaQtA14
import Derived.Lib.SmallJoins
import Derived.OpenShut
namespace Go.Proofs.Yteellfgiejnigaa
open Go.ChangeShapes Go.WideShapes Go.ChangeAt Go.RowKit
set_option linter.unusedVariables false
section
variable {ops : Array Oper} {rest : List Oper} {o : Oper} {a : Act} {w : World} {Q : Exit → Act → World → Prop}
theorem wpList_append_esg (hgd : o.guard = none) (s x : Operand) (ho : o.op = .call { callee := .builtin .append, args := #[s, x], argTypes := #[28, 28] }) {S S' : Foot}
 {v : Value} {es : List Ent} (hs : a.eval s = v) (hown : EsG w S 53 v es) {p : Option Addr} {c : Nat} {ys : List Value} {fs : List Ent} (hx : a.eval x = .slice p fs.length c) (hys : EsC w (fun b => S' b ∧ v.ownBlock ≠ some b) ys fs)
 (hsrc : (p = none ∧ fs = [] ∧ c = 0) ∨ ∃ a, p = some a ∧ ∀ j u, ys[j]? = some u → w.cell? (a.add j) = some u)
 (hlen : es.length + fs.length ≤ 1000000) (hS : ∀ b, S b → S' b) (hnew : S' w.heap.size)
 (h : ∀ p n c w', EsG w' S' 53 (.slice p n c) (es ++ fs) → w.grownBy w' v.ownBlock → wpList Try.prog ops Q rest (a.put o.dst (.slice p n c)) w') : wpList Try.prog ops Q (o :: rest) a w := by
 refine wpList_plain hgd fun _ hK => ?_
 obtain ⟨v', w', hr, h2, h3, _, _⟩ := run_append_esg (P := Try.prog) (ty := o.type) helE hown hys hsrc (by unfold maxLen; omega) (by omega) hS hnew
 obtain ⟨p2, c2, rfl⟩ := h2.form
 unfold Oper.wp execOp
 simp only [ho, resolve, invoke, builtin, Sem.run_bind, Sem.run_pure, Result.andThen_ok, List.map_toArray, List.map_cons, List.map_nil, hs, hx, hr]
 exact hK _ _ (h p2 _ c2 w' h2 h3)
end
end Go.Proofs.Yteellfgiejnigaa
namespace Go.Proofs.Yteellfgiejnigaa
open Go.ChangeShapes Go.WideShapes Go.ChangeAt Go.RowKit Go.Deep
set_option linter.unusedVariables false
section
variable {H : Type} {enc : TypeId × Value → H} {w : World} {base : Nat} {spare : Nat → Bool} {held : Bool}
theorem wf_u64 {n : Int} (h : (Lit.int .u64 n).wf = true) : 0 ≤ n ∧ n < 18446744073709551616 := by
 have : 0 ≤ n ∧ n ≤ 18446744073709551615 := by simpa [Lit.wf, IntKind.min, IntKind.max, IntKind.signed, IntKind.bits] using h
 omega
end
end Go.Proofs.Yteellfgiejnigaa
namespace Go.Proofs.Yteellfgiejnigaa
open Go.ChangeShapes Go.WideShapes Go.ChangeAt Go.RowKit
set_option linter.unusedVariables false
theorem run_slice_lo_u (t e : TypeId) (ht : Try.prog.underlying t = some (.slice e)) (sz : Nat) (hsz : (Try.prog.info? e).map (·.size) = some sz) (p : Option Addr) (len cap : Nat) (l : Nat) (hl : l ≤ len) (w : World) :
 (Instr.sliceAt t (.slice p len cap) (some (.int .u64 (l : Int))) none none).run Try.prog w = .ok (.slice (if cap = l then p else p.map (·.add (l * sz))) (len - l) (cap - l)) w := by
 obtain ⟨i, hi, hsi⟩ := Option.map_eq_some_iff.1 hsz
 simp [Instr.sliceAt, Instr.slice, Instr.sliceBounds, Instr.sliceBound, asIntOf, Sem.run_bind, run_underlying ht, sizeOf, typeInfo, hi, hsi, hl]
def sliceR (B : Nat) (es : List Ent) (fr : Nat) (most : Int) : List Ent := if fr ≤ B ∨ B + es.length < fr ∨ most < 1 then [] else (es.drop (fr - B - 1)).take most.toNat
set_option maxRecDepth 100000 in
set_option maxHeartbeats 3200000 in
theorem slice_w (S : Foot) (g B T fr : Nat) (most : Int) (v : Value) (es : List Ent) (w : World) (h : TkAt w S g B T v es) (hn : es.length ≤ 1000000) (hl : ∀ e ∈ es, e.2.length ≤ 1000000) (hf : fr < 2 ^ 64) (hm : -9223372036854775808 ≤ most ∧ most ≤ 9223372036854775807) :
 Calls Try.prog 25 #[.pointer (some ⟨g, 0, none⟩), .int .u64 (fr : Int), .int .i64 most] w fun r w' => ∃ u, r = .returned u ∧ EsG w' (fun b => w.heap.size ≤ b) 53 u (sliceR B es fr most) ∧ Below w.heap.size w w' := by
 have H := zh (h.mono (S' := fun b => S b ∧ b < w.heap.size) fun b hb hs => ⟨hs, hb⟩)
 have Hlast := zh (last_w S g B T v es w h)
 have Hl := zh hl
 have c0 := h.c0
 have hfi := h.fits
 unfold sliceR
 by_cases h1 : fr ≤ B
 · rw [if_pos (.inl h1)]
   have e1 : decide (fr ≤ B) = true := by simp [h1]
   clear h Hlast
   go_enter Try.func25, Try.ntmps25
   go_wp2
   go_ret
   exact ⟨_, rfl, .inl ⟨rfl, rfl⟩, Below.refl _ _⟩
 · have e1 : decide (fr ≤ B) = false := by simp; omega
   by_cases h2 : B + es.length < fr
   · rw [if_pos (.inr (.inl h2))]
     have e2 : decide (B + es.length < fr) = true := by simp [h2]
     generalize B + es.length = L at *
     clear h
     go_enter Try.func25, Try.ntmps25
     go_wp2_with (go_at_call 76; refine (Hlast.out).mono ?_; rintro r w1 ⟨rfl, hB⟩; have HB := zh hB; clear hB)
     go_ret
     exact ⟨_, rfl, .inl ⟨rfl, rfl⟩, HB.out⟩
   · have e2 : decide (B + es.length < fr) = false := by simp; omega
     by_cases h3 : most < 1
     · rw [if_pos (.inr (.inr h3))]
       have e3 : decide (most < 1) = true := by simp [h3]
       generalize B + es.length = L at *
       clear h
       go_enter Try.func25, Try.ntmps25
       go_wp2_with (go_at_call 76; refine (Hlast.out).mono ?_; rintro r w1 ⟨rfl, hB⟩; have HB := zh hB; clear hB)
       go_ret
       exact ⟨_, rfl, .inl ⟨rfl, rfl⟩, HB.out⟩
     · rw [if_neg (by omega)]
       have e3 : decide (most < 1) = false := by simp; omega
       obtain ⟨k0, hk0⟩ : ∃ k0, k0 = fr - B - 1 := ⟨_, rfl⟩
       rw [← hk0]
       have hkn : k0 < es.length := by omega
       obtain ⟨b, off, n, c, d, hv, hnn, z1, z2, z3⟩ := h.own.rd.elem k0 hkn
       clear z1 z2 z3
       have hcap : es.length ≤ c := by obtain ⟨p, c', xs, e, q, _⟩ := h.own.rd; rw [hv] at e; cases e; exact q
       subst hv hnn
       obtain ⟨m, hmm⟩ : ∃ m, m = min most.toNat (es.length - k0) := ⟨_, rfl⟩
       obtain ⟨n1, hn1⟩ : ∃ n1, n1 = es.length - k0 := ⟨_, rfl⟩
       obtain ⟨c1, hc1⟩ : ∃ c1, c1 = c - k0 := ⟨_, rfl⟩
       have hs1 : ∀ x : World, (Instr.sliceAt 28 (.slice (some ⟨b, off, none⟩) es.length c) (some (.int .u64 (k0 : Int))) none none).run Try.prog x = .ok (.slice (some ⟨b, off + k0 * 2, none⟩) n1 c1) x := fun x => by
        rw [run_slice_lo_u 28 53 Try.underlying28 2 (by kernel_rfl) (some ⟨b, off, none⟩) es.length c k0 (by omega) x, if_neg (by omega), hn1, hc1]
        simp [Addr.add_mid]
       have hs2 : ∀ x : World, (Instr.sliceAt 28 (.slice (some ⟨b, off + k0 * 2, none⟩) n1 c1) none (some (.int .i64 (m : Int))) none).run Try.prog x = .ok (.slice (some ⟨b, off + k0 * 2, none⟩) m c1) x := fun x =>
        run_slice_hi (P := Try.prog) 28 53 Try.underlying28 2 (by kernel_rfl) (some ⟨b, off + k0 * 2, none⟩) n1 c1 m (by omega) x
       have e5 : IntKind.u64.wrap ((fr : Int) - (B : Int)) = (k0 : Int) + 1 := by rw [IntWalk.u64_in _ (by omega)]; omega
       have e6 : IntKind.u64.wrap ((k0 : Int) + 1 - 1) = (k0 : Int) := by rw [IntWalk.u64_in _ (by omega)]; omega
       have e7 : (k0 : Int) + 1 - 1 = (k0 : Int) := by omega
       have e8 : IntKind.u64.wrap (k0 : Int) = (k0 : Int) := IntWalk.u64_in _ (by omega)
       obtain ⟨q, hq⟩ : ∃ q : Nat, most = (q : Int) := ⟨most.toNat, by omega⟩
       have Hq := zh (show most.toNat = q by omega)
       have hmq : m = min q n1 := by rw [hmm, Hq.out, hn1]
       have Hmq := zh hmq
       have Hn1 := zh hn1
       have Hm1 := zh (show m ≤ n1 by omega)
       have hm6 : m ≤ 1000000 := by omega
       have hn6 : n1 ≤ 1000000 := by omega
       have Hk0 := zh hk0
       have Hfin := zh (show (es.drop k0).take most.toNat = (es.drop k0).take m by rw [List.take_eq_take_iff, List.length_drop]; omega)
       have Hkm := zh (show k0 + m ≤ es.length by omega)
       subst hq
       generalize B + es.length = L at *
       have hway : (q < n1 ∧ m = q) ∨ (q = n1 ∧ m = n1) ∨ (n1 < q ∧ m = n1) := by omega
       clear h h1 h2 h3 hk0 hkn hcap hmm hn1 hc1 hmq hl
       rcases hway with ⟨hlt, rfl⟩ | ⟨rfl, rfl⟩ | ⟨hlt, rfl⟩
       · go_enter Try.func25, Try.ntmps25
         go_wp2_with (go_at_call 76; refine (Hlast.out).mono ?_; rintro r w1 ⟨rfl, hB⟩; have HB := zh hB; have H1 := zh (H.out.keeps hB.block); have c0 := H1.out.c0; have c2 := H1.out.c2; clear hB)
         go_quiet (fail)
         go_wp2
         have HBq := zh (show Below w.heap.size w (w1.drewN nq) from HB.out.trans ⟨rfl, rfl, rfl, Nat.le_refl _, fun _ _ => rfl⟩)
         go_loopw [7, 50] (fun v i wr => ∃ (k : Nat) (p : Option Addr) (n c : Nat), k ≤ m ∧ i = .int .i64 (k : Int) ∧ v = .slice p n c ∧ Hid (EsG wr (fun b => w.heap.size ≤ b) 53 (.slice p n c) ((es.drop k0).take k)) ∧ Hid (Below w.heap.size w wr)) (fun _ i _ => m - (intOf i).toNat)
         case atStart => exact ⟨0, none, 0, 0, Nat.zero_le _, rfl, rfl, zh (.inl ⟨rfl, by simp⟩), HBq⟩
         case round =>
          obtain ⟨k, p, n, c3, hk, rfl, rfl, HE, HBr⟩ := hrel
          by_cases hlk : k < m
          · have hkj : k0 + k < es.length := by have := Hkm.out; omega
            have hT := H.out.frame (fun b hb => HBr.out.block b hb.2)
            obtain ⟨b2, off2, n2, c2, d, hsv, hnn, hrange, hda, htl⟩ := hT.own.rd.elem (k0 + k) hkj
            cases hsv
            have Hra := zh (show wr.rangeAt b (off + k0 * 2 + k * 2) [.int .u64 ((es[k0 + k].1 : Nat) : Int), d] by rw [show off + k0 * 2 + k * 2 = off + (k0 + k) * 2 by omega]; exact hrange)
            have Htl := zh htl
            have Hes := zh (show (es.drop k0).take (k + 1) = (es.drop k0).take k ++ [(es[k0 + k].1, es[k0 + k].2)] by
             rw [List.take_succ_eq_append_getElem (by rw [List.length_drop]; omega)]; simp)
            have hll := Hl.out es[k0 + k] (List.getElem_mem _)
            have HZ := zh (heap_alloc_new wr (.cells #[.int .u64 0, .slice none 0 0] 53))
            have hlen : ((es.drop k0).take k).length ≤ 1000000 - 1 := by rw [List.length_take, List.length_drop]; omega
            generalize es[k0 + k].1 = t at *
            generalize es[k0 + k].2 = le at *
            obtain ⟨pd, cd, rfl⟩ : ∃ p c, d = .slice p le.length c := by obtain ⟨p, c, h1, _⟩ := hda.rd; exact ⟨p, c, h1⟩
            obtain ⟨W2, HW2, hE, hB2⟩ := stored53 wr t (.slice pd le.length cd)
            have HE1 := zh hE
            have HD := zh (hda.rd.below hB2)
            have HB2 := zh hB2
            have HEg := zh (HE.out.keeps hB2.block)
            have HBw := zh (HBr.out.trans (hB2.mono HBr.out.size))
            clear hrange hda htl hE hB2 hT hnn hkj
            go_wp2_with (first
             | (refine wpList_load_mid rfl 53 (.tmp 52) rfl _ _ rfl [.int .u64 (t : Int), .slice pd le.length cd] _ Hra.out Try.underlying53 rfl (show _ = some 2 by kernel_rfl) ?_)
             | (refine wpList_alloc_zero rfl 53 rfl _ hz53 ?_)
             | (refine wpList_store_rowTo rfl 53 (.tmp 10) (.tmp 53) rfl rfl _ #[.int .u64 (t : Int), .slice pd le.length cd] rfl rfl 53 #[.int .u64 0, .slice none 0 0] HZ.out (show _ = some 2 by kernel_rfl) rfl (ent_one _ _ _ _) ?_; rw [HW2.out])
             | (refine wpList_load_row rfl 53 (.tmp 10) rfl _ rfl _ _ _ _ HE1.out Try.underlying53 rfl (show _ = some 2 by kernel_rfl) ?_)
             | (go_at_call 78; refine (copied_w t (.slice pd le.length cd) le _ HD.out (by omega)).mono ?_; rintro r w5 ⟨p5, c5, rfl, hd5, hB⟩; have HD5 := zh (hd5.keeps ((Keeps.refl w5).alloc (.cells #[.int .u64 (t : Int), .slice p5 le.length c5] 53))); have HN5 := zh (EntAt.new w5 t (.slice p5 le.length c5)); have HE5 := zh ((HEg.out.keeps hB.block).keeps ((Keeps.refl w5).alloc (.cells #[.int .u64 (t : Int), .slice p5 le.length c5] 53))); have hsz5 := hB.size; have HB5 := zh ((HBw.out.trans (hB.mono HBw.out.size)).alloc (Nat.le_trans HBw.out.size hB.size) (.cells #[.int .u64 (t : Int), .slice p5 le.length c5] 53)); clear hd5 hB)
             | (refine wpList_append_esg rfl (.tmp 54) (.tmp 57) rfl (S' := fun b => w.heap.size ≤ b) rfl HE5.out rfl (fs := [(t, le)]) (EsC.cons Htl.out (HD5.out.mono fun b _ hb => (⟨Nat.le_trans HBw.out.size hb, fun e => by have hb2 : W2.heap.size ≤ b := hb; have := (HEg.out.foot b e).2; omega⟩ : (w.heap.size ≤ b) ∧ (Value.slice p n c3).ownBlock ≠ some b)) .nil) (.inr ⟨_, rfl, ent_cells HN5.out⟩) (by simp; omega) (fun b hb => hb) (by have := HB5.out.size; exact this) ?_; intro p6 n6 c6 w6 ho hg; have HE6 := zh ho; have HB6 := zh (HB5.out.grown hg HB5.out.size (fun g e => (HE5.out.foot g e).1)); clear ho hg))
            go_roundw
            case rel => exact ⟨k + 1, p6, n6, c6, by omega, by go_num, rfl, by rw [Hes.out]; exact HE6, HB6⟩
            case measure => simp [intOf]; omega
          · have hk2 : k = m := by omega
            go_wp2
            go_ret
            have h1 := HE.out
            rw [hk2] at h1
            exact ⟨_, rfl, by rw [Hfin.out]; exact h1, HBr.out⟩
       · go_enter Try.func25, Try.ntmps25
         go_wp2_with (go_at_call 76; refine (Hlast.out).mono ?_; rintro r w1 ⟨rfl, hB⟩; have HB := zh hB; have H1 := zh (H.out.keeps hB.block); have c0 := H1.out.c0; have c2 := H1.out.c2; clear hB)
         go_quiet (fail)
         go_wp2
         have HBq := zh (show Below w.heap.size w (w1.drewN nq) from HB.out.trans ⟨rfl, rfl, rfl, Nat.le_refl _, fun _ _ => rfl⟩)
         go_loopw [7, 50] (fun v i wr => ∃ (k : Nat) (p : Option Addr) (n c : Nat), k ≤ m ∧ i = .int .i64 (k : Int) ∧ v = .slice p n c ∧ Hid (EsG wr (fun b => w.heap.size ≤ b) 53 (.slice p n c) ((es.drop k0).take k)) ∧ Hid (Below w.heap.size w wr)) (fun _ i _ => m - (intOf i).toNat)
         case atStart => exact ⟨0, none, 0, 0, Nat.zero_le _, rfl, rfl, zh (.inl ⟨rfl, by simp⟩), HBq⟩
         case round =>
          obtain ⟨k, p, n, c3, hk, rfl, rfl, HE, HBr⟩ := hrel
          by_cases hlk : k < m
          · have hkj : k0 + k < es.length := by have := Hkm.out; omega
            have hT := H.out.frame (fun b hb => HBr.out.block b hb.2)
            obtain ⟨b2, off2, n2, c2, d, hsv, hnn, hrange, hda, htl⟩ := hT.own.rd.elem (k0 + k) hkj
            cases hsv
            have Hra := zh (show wr.rangeAt b (off + k0 * 2 + k * 2) [.int .u64 ((es[k0 + k].1 : Nat) : Int), d] by rw [show off + k0 * 2 + k * 2 = off + (k0 + k) * 2 by omega]; exact hrange)
            have Htl := zh htl
            have Hes := zh (show (es.drop k0).take (k + 1) = (es.drop k0).take k ++ [(es[k0 + k].1, es[k0 + k].2)] by
             rw [List.take_succ_eq_append_getElem (by rw [List.length_drop]; omega)]; simp)
            have hll := Hl.out es[k0 + k] (List.getElem_mem _)
            have HZ := zh (heap_alloc_new wr (.cells #[.int .u64 0, .slice none 0 0] 53))
            have hlen : ((es.drop k0).take k).length ≤ 1000000 - 1 := by rw [List.length_take, List.length_drop]; omega
            generalize es[k0 + k].1 = t at *
            generalize es[k0 + k].2 = le at *
            obtain ⟨pd, cd, rfl⟩ : ∃ p c, d = .slice p le.length c := by obtain ⟨p, c, h1, _⟩ := hda.rd; exact ⟨p, c, h1⟩
            obtain ⟨W2, HW2, hE, hB2⟩ := stored53 wr t (.slice pd le.length cd)
            have HE1 := zh hE
            have HD := zh (hda.rd.below hB2)
            have HB2 := zh hB2
            have HEg := zh (HE.out.keeps hB2.block)
            have HBw := zh (HBr.out.trans (hB2.mono HBr.out.size))
            clear hrange hda htl hE hB2 hT hnn hkj
            go_wp2_with (first
             | (refine wpList_load_mid rfl 53 (.tmp 52) rfl _ _ rfl [.int .u64 (t : Int), .slice pd le.length cd] _ Hra.out Try.underlying53 rfl (show _ = some 2 by kernel_rfl) ?_)
             | (refine wpList_alloc_zero rfl 53 rfl _ hz53 ?_)
             | (refine wpList_store_rowTo rfl 53 (.tmp 10) (.tmp 53) rfl rfl _ #[.int .u64 (t : Int), .slice pd le.length cd] rfl rfl 53 #[.int .u64 0, .slice none 0 0] HZ.out (show _ = some 2 by kernel_rfl) rfl (ent_one _ _ _ _) ?_; rw [HW2.out])
             | (refine wpList_load_row rfl 53 (.tmp 10) rfl _ rfl _ _ _ _ HE1.out Try.underlying53 rfl (show _ = some 2 by kernel_rfl) ?_)
             | (go_at_call 78; refine (copied_w t (.slice pd le.length cd) le _ HD.out (by omega)).mono ?_; rintro r w5 ⟨p5, c5, rfl, hd5, hB⟩; have HD5 := zh (hd5.keeps ((Keeps.refl w5).alloc (.cells #[.int .u64 (t : Int), .slice p5 le.length c5] 53))); have HN5 := zh (EntAt.new w5 t (.slice p5 le.length c5)); have HE5 := zh ((HEg.out.keeps hB.block).keeps ((Keeps.refl w5).alloc (.cells #[.int .u64 (t : Int), .slice p5 le.length c5] 53))); have hsz5 := hB.size; have HB5 := zh ((HBw.out.trans (hB.mono HBw.out.size)).alloc (Nat.le_trans HBw.out.size hB.size) (.cells #[.int .u64 (t : Int), .slice p5 le.length c5] 53)); clear hd5 hB)
             | (refine wpList_append_esg rfl (.tmp 54) (.tmp 57) rfl (S' := fun b => w.heap.size ≤ b) rfl HE5.out rfl (fs := [(t, le)]) (EsC.cons Htl.out (HD5.out.mono fun b _ hb => (⟨Nat.le_trans HBw.out.size hb, fun e => by have hb2 : W2.heap.size ≤ b := hb; have := (HEg.out.foot b e).2; omega⟩ : (w.heap.size ≤ b) ∧ (Value.slice p n c3).ownBlock ≠ some b)) .nil) (.inr ⟨_, rfl, ent_cells HN5.out⟩) (by simp; omega) (fun b hb => hb) (by have := HB5.out.size; exact this) ?_; intro p6 n6 c6 w6 ho hg; have HE6 := zh ho; have HB6 := zh (HB5.out.grown hg HB5.out.size (fun g e => (HE5.out.foot g e).1)); clear ho hg))
            go_roundw
            case rel => exact ⟨k + 1, p6, n6, c6, by omega, by go_num, rfl, by rw [Hes.out]; exact HE6, HB6⟩
            case measure => simp [intOf]; omega
          · have hk2 : k = m := by omega
            go_wp2
            go_ret
            have h1 := HE.out
            rw [hk2] at h1
            exact ⟨_, rfl, by rw [Hfin.out]; exact h1, HBr.out⟩
       · go_enter Try.func25, Try.ntmps25
         go_wp2_with (go_at_call 76; refine (Hlast.out).mono ?_; rintro r w1 ⟨rfl, hB⟩; have HB := zh hB; have H1 := zh (H.out.keeps hB.block); have c0 := H1.out.c0; have c2 := H1.out.c2; clear hB)
         go_quiet (fail)
         go_wp2
         have HBq := zh (show Below w.heap.size w (w1.drewN nq) from HB.out.trans ⟨rfl, rfl, rfl, Nat.le_refl _, fun _ _ => rfl⟩)
         go_loopw [7, 50] (fun v i wr => ∃ (k : Nat) (p : Option Addr) (n c : Nat), k ≤ m ∧ i = .int .i64 (k : Int) ∧ v = .slice p n c ∧ Hid (EsG wr (fun b => w.heap.size ≤ b) 53 (.slice p n c) ((es.drop k0).take k)) ∧ Hid (Below w.heap.size w wr)) (fun _ i _ => m - (intOf i).toNat)
         case atStart => exact ⟨0, none, 0, 0, Nat.zero_le _, rfl, rfl, zh (.inl ⟨rfl, by simp⟩), HBq⟩
         case round =>
          obtain ⟨k, p, n, c3, hk, rfl, rfl, HE, HBr⟩ := hrel
          by_cases hlk : k < m
          · have hkj : k0 + k < es.length := by have := Hkm.out; omega
            have hT := H.out.frame (fun b hb => HBr.out.block b hb.2)
            obtain ⟨b2, off2, n2, c2, d, hsv, hnn, hrange, hda, htl⟩ := hT.own.rd.elem (k0 + k) hkj
            cases hsv
            have Hra := zh (show wr.rangeAt b (off + k0 * 2 + k * 2) [.int .u64 ((es[k0 + k].1 : Nat) : Int), d] by rw [show off + k0 * 2 + k * 2 = off + (k0 + k) * 2 by omega]; exact hrange)
            have Htl := zh htl
            have Hes := zh (show (es.drop k0).take (k + 1) = (es.drop k0).take k ++ [(es[k0 + k].1, es[k0 + k].2)] by
             rw [List.take_succ_eq_append_getElem (by rw [List.length_drop]; omega)]; simp)
            have hll := Hl.out es[k0 + k] (List.getElem_mem _)
            have HZ := zh (heap_alloc_new wr (.cells #[.int .u64 0, .slice none 0 0] 53))
            have hlen : ((es.drop k0).take k).length ≤ 1000000 - 1 := by rw [List.length_take, List.length_drop]; omega
            generalize es[k0 + k].1 = t at *
            generalize es[k0 + k].2 = le at *
            obtain ⟨pd, cd, rfl⟩ : ∃ p c, d = .slice p le.length c := by obtain ⟨p, c, h1, _⟩ := hda.rd; exact ⟨p, c, h1⟩
            obtain ⟨W2, HW2, hE, hB2⟩ := stored53 wr t (.slice pd le.length cd)
            have HE1 := zh hE
            have HD := zh (hda.rd.below hB2)
            have HB2 := zh hB2
            have HEg := zh (HE.out.keeps hB2.block)
            have HBw := zh (HBr.out.trans (hB2.mono HBr.out.size))
            clear hrange hda htl hE hB2 hT hnn hkj
            go_wp2_with (first
             | (refine wpList_load_mid rfl 53 (.tmp 52) rfl _ _ rfl [.int .u64 (t : Int), .slice pd le.length cd] _ Hra.out Try.underlying53 rfl (show _ = some 2 by kernel_rfl) ?_)
             | (refine wpList_alloc_zero rfl 53 rfl _ hz53 ?_)
             | (refine wpList_store_rowTo rfl 53 (.tmp 10) (.tmp 53) rfl rfl _ #[.int .u64 (t : Int), .slice pd le.length cd] rfl rfl 53 #[.int .u64 0, .slice none 0 0] HZ.out (show _ = some 2 by kernel_rfl) rfl (ent_one _ _ _ _) ?_; rw [HW2.out])
             | (refine wpList_load_row rfl 53 (.tmp 10) rfl _ rfl _ _ _ _ HE1.out Try.underlying53 rfl (show _ = some 2 by kernel_rfl) ?_)
             | (go_at_call 78; refine (copied_w t (.slice pd le.length cd) le _ HD.out (by omega)).mono ?_; rintro r w5 ⟨p5, c5, rfl, hd5, hB⟩; have HD5 := zh (hd5.keeps ((Keeps.refl w5).alloc (.cells #[.int .u64 (t : Int), .slice p5 le.length c5] 53))); have HN5 := zh (EntAt.new w5 t (.slice p5 le.length c5)); have HE5 := zh ((HEg.out.keeps hB.block).keeps ((Keeps.refl w5).alloc (.cells #[.int .u64 (t : Int), .slice p5 le.length c5] 53))); have hsz5 := hB.size; have HB5 := zh ((HBw.out.trans (hB.mono HBw.out.size)).alloc (Nat.le_trans HBw.out.size hB.size) (.cells #[.int .u64 (t : Int), .slice p5 le.length c5] 53)); clear hd5 hB)
             | (refine wpList_append_esg rfl (.tmp 54) (.tmp 57) rfl (S' := fun b => w.heap.size ≤ b) rfl HE5.out rfl (fs := [(t, le)]) (EsC.cons Htl.out (HD5.out.mono fun b _ hb => (⟨Nat.le_trans HBw.out.size hb, fun e => by have hb2 : W2.heap.size ≤ b := hb; have := (HEg.out.foot b e).2; omega⟩ : (w.heap.size ≤ b) ∧ (Value.slice p n c3).ownBlock ≠ some b)) .nil) (.inr ⟨_, rfl, ent_cells HN5.out⟩) (by simp; omega) (fun b hb => hb) (by have := HB5.out.size; exact this) ?_; intro p6 n6 c6 w6 ho hg; have HE6 := zh ho; have HB6 := zh (HB5.out.grown hg HB5.out.size (fun g e => (HE5.out.foot g e).1)); clear ho hg))
            go_roundw
            case rel => exact ⟨k + 1, p6, n6, c6, by omega, by go_num, rfl, by rw [Hes.out]; exact HE6, HB6⟩
            case measure => simp [intOf]; omega
          · have hk2 : k = m := by omega
            go_wp2
            go_ret
            have h1 := HE.out
            rw [hk2] at h1
            exact ⟨_, rfl, by rw [Hfin.out]; exact h1, HBr.out⟩
def mayI (B n i : Nat) : Bool := decide (B ≤ i) && decide (i ≤ B + n)
def mayE (B n i : Nat) : Int := if mayI B n i then 0 else 2
set_option maxRecDepth 100000 in
theorem may_w (S : Foot) (g B T i : Nat) (v : Value) (es : List Ent) (w : World) (h : TkAt w S g B T v es) :
 Calls Try.prog 79 #[.pointer (some ⟨g, 0, none⟩), .int .u64 (i : Int)] w fun r w' => r = .returned (.int .i64 (mayE B es.length i)) ∧ Below w.heap.size w w' := by
 have Hlast := zh (last_w S g B T v es w h)
 have c0 := h.c0
 by_cases h1 : i < B
 · have e1 : decide (i < B) = true := by simp [h1]
   have Hf := zh (show mayE B es.length i = 2 by unfold mayE mayI; rw [if_neg (by simp; omega)])
   clear h Hlast
   go_enter Try.func79, Try.ntmps79
   go_wp2
   go_ret
   exact ⟨by rw [Hf.out]; rfl, Below.refl _ _⟩
 · have e1 : decide (i < B) = false := by simp; omega
   by_cases h2 : B + es.length < i
   · have e2 : decide (B + es.length < i) = true := by simp [h2]
     have Hf := zh (show mayE B es.length i = 2 by unfold mayE mayI; rw [if_neg (by simp; omega)])
     generalize B + es.length = L at *
     clear h
     go_enter Try.func79, Try.ntmps79
     go_wp2_with (go_at_call 76; refine (Hlast.out).mono ?_; rintro r w1 ⟨rfl, hB⟩; have HB := zh hB; clear hB)
     go_ret
     exact ⟨by rw [Hf.out]; rfl, HB.out⟩
   · have e2 : decide (B + es.length < i) = false := by simp; omega
     have Hf := zh (show mayE B es.length i = 0 by unfold mayE mayI; rw [if_pos (by simp; omega)])
     generalize B + es.length = L at *
     clear h
     go_enter Try.func79, Try.ntmps79
     go_wp2_with (go_at_call 76; refine (Hlast.out).mono ?_; rintro r w1 ⟨rfl, hB⟩; have HB := zh hB; clear hB)
     go_ret
     exact ⟨by rw [Hf.out]; rfl, HB.out⟩
theorem run_slice_hm_u (t e : TypeId) (ht : Try.prog.underlying t = some (.slice e)) (sz : Nat) (hsz : (Try.prog.info? e).map (·.size) = some sz) (p : Option Addr) (len cap : Nat) (n : Nat) (hn : n ≤ cap) (w : World) :
 (Instr.sliceAt t (.slice p len cap) none (some (.int .u64 (n : Int))) (some (.int .u64 (n : Int)))).run Try.prog w = .ok (.slice p n n) w := by
 obtain ⟨i, hi, hsi⟩ := Option.map_eq_some_iff.1 hsz
 simp [Instr.sliceAt, Instr.slice, Instr.sliceBounds, Instr.sliceBound, asIntOf, Sem.run_bind, run_underlying ht, sizeOf, typeInfo, hi, hn, Addr_add_zero]
theorem EsG.cut {w : World} {S : Foot} {e : TypeId} {p : Option Addr} {m c : Nat} {es : List Ent} (h : EsG w S e (.slice p m c) es) {n : Nat} (hn : n ≤ es.length) : EsG w S e (.slice p n n) (es.take n) := by
 rcases h with ⟨h, rfl⟩ | ⟨g, cap, cur, h, hg, hh, h1, h2, h3, h4⟩
 · cases h
   have : n = 0 := by simpa using hn
   subst this
   exact .inl ⟨rfl, rfl⟩
 · cases h
   have hl : (es.take n).length = n := by rw [List.length_take]; omega
   refine .inr ⟨g, n, cur, by rw [hl], hg, hh, by rw [hl]; exact Nat.le_refl _, by omega, by omega, ?_⟩
   have := h4.take n
   rw [List.take_take, Nat.min_eq_left (by omega)] at this
   rw [hl]; exact this
set_option maxRecDepth 100000 in
theorem cut_ok_w (S : Foot) (g B T i : Nat) (v : Value) (es : List Ent) (w : World) (h : TkAt w S g B T v es) (hi : mayI B es.length i = true) :
 Calls Try.prog 26 #[.pointer (some ⟨g, 0, none⟩), .int .u64 (i : Int)] w fun r w' => r = .returned (.int .i64 0) ∧ (∃ v', TkAt w' S g B T v' (es.take (i - B))) ∧ Touch S w w' := by
 have HM := zh (may_w S g B T i v es w h)
 unfold mayE at HM
 rw [hi] at HM
 simp only [if_true] at HM
 have H := zh h
 obtain ⟨p, c, rfl⟩ := h.own.form
 have hcap : es.length ≤ c := by obtain ⟨p, c', xs, e, q, _⟩ := h.own.rd; cases e; exact q
 have hin : B ≤ i ∧ i ≤ B + es.length := by unfold mayI at hi; simpa using hi
 obtain ⟨n, hn⟩ : ∃ n, n = i - B := ⟨_, rfl⟩
 have hfit := h.fits
 have e1 : IntKind.u64.wrap ((i : Int) - (B : Int)) = (n : Int) := by rw [IntWalk.u64_in _ (by omega)]; omega
 have hsl := fun x => run_slice_hm_u 28 53 Try.underlying28 2 (by kernel_rfl) p es.length c n (by omega) x
 have Hn := zh (And.intro hn (show n ≤ es.length by omega))
 clear h hi hin hcap hn hfit
 go_enter Try.func26, Try.ntmps26
 go_wp2_with (go_at_call 79; refine (HM.out).mono ?_; rintro r w1 ⟨rfl, hB⟩; have H1 := zh (H.out.keeps hB.block); have HB := zh hB; have c0 := H1.out.c0; have c2 := H1.out.c2; have f2 := H1.out.frozen 2; clear hB)
 go_ret
 refine ⟨rfl, ⟨.slice p n n, ?_⟩, ?_⟩
 · rw [← Hn.out.1]; exact H1.out.put H1.out.foot (H1.out.own.cut Hn.out.2) (by have := H1.out.fits; rw [List.length_take]; omega)
 · exact (Touch.of_below HB.out).trans (Touch.of_grownBy (S := S) (Lib.grownBy_setCell w1 g 2 (.slice p n n)) (fun b e => by cases e; exact H1.out.foot)) (fun b _ e => e)
theorem EsR.both {w : World} {S : Foot} {v : Value} {es : List Ent} (h : EsR w S v es) (k : Nat) (hk : k < es.length) : ∃ b off c d, v = .slice (some ⟨b, off, none⟩) es.length c ∧
 w.cell? ⟨b, off + k * 2, none⟩ = some (.int .u64 ((es[k].1 : Nat) : Int)) ∧ w.cell? ⟨b, off + k * 2 + 1, none⟩ = some d ∧ RdB w d es[k].2 := by
 obtain ⟨b, off, n, c, d, h1, h2, h3, h4, _⟩ := h.elem k hk
 subst h2
 exact ⟨b, off, c, d, h1, by simpa using h3 0 _ rfl, by simpa using h3 1 _ rfl, h4.rd⟩
theorem bytes_ne {l m : List UInt8} (h : l ≠ m) : ((⟨l.toArray⟩ : ByteArray) == (⟨m.toArray⟩ : ByteArray)) = false := by
 rw [beq_toListBytes, ByteArray.toList_eq, ByteArray.toList_eq]
 simpa using h
set_option maxRecDepth 100000 in
set_option maxHeartbeats 3200000 in
theorem same_w (R1 R2 : Foot) (va vb : Value) (es fs : List Ent) (w : World) (ha : EsR w R1 va es) (hb : EsR w R2 vb fs) (hn : es.length ≤ 1000000) :
 Calls Try.prog 29 #[va, vb] w fun r w' => r = .returned (.bool (decide (es = fs))) ∧ Below w.heap.size w w' := by
 obtain ⟨pa, ca, rfl⟩ : ∃ p c, va = .slice p es.length c := by obtain ⟨p, c, xs, e, _⟩ := ha; exact ⟨p, c, e⟩
 obtain ⟨pb, cb, rfl⟩ : ∃ p c, vb = .slice p fs.length c := by obtain ⟨p, c, xs, e, _⟩ := hb; exact ⟨p, c, e⟩
 have Ha := zh ha
 have Hb := zh hb
 clear ha hb
 by_cases hl : es.length = fs.length
 · have e1 : ((es.length : Int) == (fs.length : Int)) = true := by simp [hl]
   have e2 : (es.length == fs.length) = true := by simp [hl]
   have Hl := zh hl
   have e3 : decide (es.length = fs.length) = true := by simp [hl]
   have e0 : ((es.length : Int) != (fs.length : Int)) = false := by simp [hl]
   have e4 : (es.length != fs.length) = false := by simp [hl]
   clear hl
   go_enter Try.func29, Try.ntmps29
   go_wp2
   go_loopw [5] (fun i wr => ∃ k : Nat, k ≤ es.length ∧ i = .int .i64 (k : Int) ∧ Hid (es.take k = fs.take k) ∧ Hid (Below w.heap.size w wr)) (fun i _ => es.length - (intOf i).toNat)
   case atStart => exact ⟨0, Nat.zero_le _, rfl, zh rfl, zh (Below.refl _ _)⟩
   case round =>
    obtain ⟨k, hk, rfl, HT, HB⟩ := hrel
    by_cases hlt : k < es.length
    · have hlt2 : k < fs.length := by have := Hl.out; omega
      obtain ⟨b1, o1, c1, d1, hv1, q1, q2, q3⟩ := Ha.out.both k hlt
      obtain ⟨b2, o2, c2, d2, hv2, r1, r2, r3⟩ := Hb.out.both k hlt2
      cases hv1
      cases hv2
      have H1 := zh (And.intro q1 (And.intro q2 q3))
      have H2 := zh (And.intro r1 (And.intro r2 r3))
      have Hse := zh (show es.take (k + 1) = es.take k ++ [(es[k].1, es[k].2)] by rw [List.take_succ_eq_append_getElem hlt])
      have Hsf := zh (show fs.take (k + 1) = fs.take k ++ [(fs[k].1, fs[k].2)] by rw [List.take_succ_eq_append_getElem hlt2])
      have Hne := zh (fun (h : ¬ (es[k].1 = fs[k].1 ∧ es[k].2 = fs[k].2)) => (show decide (es = fs) = false by
       simp only [decide_eq_false_iff_not]; intro e; apply h; subst e; exact ⟨rfl, rfl⟩))
      have hnb : ¬ ((es.length : Int) ≤ (k : Int)) := by omega
      have hnb2 : ¬ (es.length ≤ k) := by omega
      have hnb3 : ¬ ((fs.length : Int) ≤ (k : Int)) := by omega
      have hnb4 : ¬ (fs.length ≤ k) := by omega
      generalize es[k].1 = t1 at *
      generalize es[k].2 = l1 at *
      generalize fs[k].1 = t2 at *
      generalize fs[k].2 = l2 at *
      obtain ⟨dp1, dc1, rfl⟩ : ∃ p c, d1 = .slice p l1.length c := by obtain ⟨p, c, h1, _⟩ := q3; exact ⟨p, c, h1⟩
      obtain ⟨dp2, dc2, rfl⟩ : ∃ p c, d2 = .slice p l2.length c := by obtain ⟨p, c, h1, _⟩ := r3; exact ⟨p, c, h1⟩
      obtain ⟨S1, E1⟩ : ∃ S, Hid ((⟨l1.toArray⟩ : ByteArray) = S) := ⟨_, zh rfl⟩
      obtain ⟨S2, E2⟩ : ∃ S, Hid ((⟨l2.toArray⟩ : ByteArray) = S) := ⟨_, zh rfl⟩
      have HK : Hid (Keeps w wr) := zh (fun b hb => HB.out.block b hb)
      have HW := zh (fun (W : World) (h : Keeps w W) => And.intro (And.intro (h.cell H1.out.1) (h.cell H1.out.2.1)) (And.intro (h.cell H2.out.1) (h.cell H2.out.2.1)))
      have HC := zh (fun (W : World) (h : Keeps w W) => And.intro (run_convert_str (P := Try.prog) (H1.out.2.2.keeps h) 29 5 9 Try.underlying29 Try.underlying5 Try.underlying9) (run_convert_str (P := Try.prog) (H2.out.2.2.keeps h) 29 5 9 Try.underlying29 Try.underlying5 Try.underlying9))
      clear q1 q2 q3 r1 r2 r3 hlt2
      by_cases ht : t1 = t2
      · subst ht
        by_cases hll : l1 = l2
        · subst hll
          go_wp2
          apply RegT.wp_region_T rfl 43 26 rfl (by kernel_rfl) RegT.Grow RegT.Grow.refl RegT.Grow.trans
          · iterate 2
             apply RegT.T_pure rfl rfl rfl
             · intro W hR; go_simp; rfl
             simp only [List.set_cons_succ, List.set_cons_zero, Nat.reduceAdd]
            iterate 2
             apply RegT.T_pure (v := .pointer (some ⟨b1, o1 + k * 2, none⟩)) rfl rfl rfl
             · intro W hR; clear hR; go_simp
             simp only [List.set_cons_succ, List.set_cons_zero, Nat.reduceAdd]
            apply RegT.T_pure (v := .int .u64 (t1 : Int)) rfl rfl rfl
            · intro W hR
              have hc := (HW.out W (HK.out.trans ((Keeps.refl wr).drew.trans hR.block))).1.1
              clear hR
              go_simp
            simp only [List.set_cons_succ, List.set_cons_zero, Nat.reduceAdd]
            iterate 2
             apply RegT.T_pure rfl rfl rfl
             · intro W hR; go_simp; rfl
             simp only [List.set_cons_succ, List.set_cons_zero, Nat.reduceAdd]
            iterate 2
             apply RegT.T_pure (v := .pointer (some ⟨b2, o2 + k * 2, none⟩)) rfl rfl rfl
             · intro W hR; clear hR; go_simp
             simp only [List.set_cons_succ, List.set_cons_zero, Nat.reduceAdd]
            apply RegT.T_pure (v := .int .u64 (t1 : Int)) rfl rfl rfl
            · intro W hR
              have hc := (HW.out W (HK.out.trans ((Keeps.refl wr).drew.trans hR.block))).2.1
              clear hR
              go_simp
            simp only [List.set_cons_succ, List.set_cons_zero, Nat.reduceAdd]
            apply RegT.T_pure (v := .bool false) rfl rfl rfl
            · intro W hR; clear hR; go_simp
            simp only [List.set_cons_succ, List.set_cons_zero, Nat.reduceAdd]
            iterate 1
             apply RegT.T_pure rfl rfl rfl
             · intro W hR; go_simp; rfl
             simp only [List.set_cons_succ, List.set_cons_zero, Nat.reduceAdd]
            iterate 2
             apply RegT.T_pure rfl rfl rfl
             · intro W hR; go_simp; rfl
             simp only [List.set_cons_succ, List.set_cons_zero, Nat.reduceAdd]
            apply RegT.T_pure (v := .pointer (some ⟨b1, o1 + k * 2, none⟩)) rfl rfl rfl
            · intro W hR; clear hR; go_simp
            simp only [List.set_cons_succ, List.set_cons_zero, Nat.reduceAdd]
            apply RegT.T_pure (v := .pointer (some ⟨b1, o1 + k * 2 + 1, none⟩)) rfl rfl rfl
            · intro W hR; clear hR; go_simp
            simp only [List.set_cons_succ, List.set_cons_zero, Nat.reduceAdd]
            apply RegT.T_pure (v := .slice dp1 l1.length dc1) rfl rfl rfl
            · intro W hR
              have hc := (HW.out W (HK.out.trans ((Keeps.refl wr).drew.trans hR.block))).1.2
              clear hR
              go_simp
            simp only [List.set_cons_succ, List.set_cons_zero, Nat.reduceAdd]
            apply RegT.T_pure (v := .string S1) rfl rfl rfl
            · intro W hR
              have hc := (HC.out W (HK.out.trans ((Keeps.refl wr).drew.trans hR.block))).1
              rw [E1.out] at hc
              clear hR
              go_simp
            simp only [List.set_cons_succ, List.set_cons_zero, Nat.reduceAdd]
            iterate 2
             apply RegT.T_pure rfl rfl rfl
             · intro W hR; go_simp; rfl
             simp only [List.set_cons_succ, List.set_cons_zero, Nat.reduceAdd]
            apply RegT.T_pure (v := .pointer (some ⟨b2, o2 + k * 2, none⟩)) rfl rfl rfl
            · intro W hR; clear hR; go_simp
            simp only [List.set_cons_succ, List.set_cons_zero, Nat.reduceAdd]
            apply RegT.T_pure (v := .pointer (some ⟨b2, o2 + k * 2 + 1, none⟩)) rfl rfl rfl
            · intro W hR; clear hR; go_simp
            simp only [List.set_cons_succ, List.set_cons_zero, Nat.reduceAdd]
            apply RegT.T_pure (v := .slice dp2 l1.length dc2) rfl rfl rfl
            · intro W hR
              have hc := (HW.out W (HK.out.trans ((Keeps.refl wr).drew.trans hR.block))).2.2
              clear hR
              go_simp
            simp only [List.set_cons_succ, List.set_cons_zero, Nat.reduceAdd]
            apply RegT.T_pure (v := .string S1) rfl rfl rfl
            · intro W hR
              have hc := (HC.out W (HK.out.trans ((Keeps.refl wr).drew.trans hR.block))).2
              rw [E1.out] at hc
              clear hR
              go_simp
            iterate 2
             simp only [List.set_cons_succ, List.set_cons_zero, Nat.reduceAdd]
             apply RegT.T_pure (v := .bool false) rfl rfl rfl
             · intro W hR; clear hR; go_simp
            simp only [List.set_cons_succ, List.set_cons_zero, Nat.reduceAdd]
            refine RegT.T_tail (fun W hR hf => ?_)
            have HB2 := zh (HB.out.trans (((Below.refl _ wr).drew.trans hR).mono HB.out.size))
            clear hR hf
            simp only [List.drop_succ_cons, List.drop_zero]
            go_wp2
            go_roundw
            case rel => exact ⟨k + 1, by omega, by go_num, zh (by rw [Hse.out, Hsf.out, HT.out]), HB2⟩
            case measure => simp [intOf]; omega
          · rfl
          · kernel_rfl
        · have hs12 : (S1 == S2) = false := by rw [← E1.out, ← E2.out]; exact bytes_ne hll
          have hs0 : ¬ S1.toList = S2.toList := by rw [← E1.out, ← E2.out, ByteArray.toList_eq, ByteArray.toList_eq]; simpa using hll
          go_wp2
          apply RegT.wp_region_T rfl 43 26 rfl (by kernel_rfl) RegT.Grow RegT.Grow.refl RegT.Grow.trans
          · iterate 2
             apply RegT.T_pure rfl rfl rfl
             · intro W hR; go_simp; rfl
             simp only [List.set_cons_succ, List.set_cons_zero, Nat.reduceAdd]
            iterate 2
             apply RegT.T_pure (v := .pointer (some ⟨b1, o1 + k * 2, none⟩)) rfl rfl rfl
             · intro W hR; clear hR; go_simp
             simp only [List.set_cons_succ, List.set_cons_zero, Nat.reduceAdd]
            apply RegT.T_pure (v := .int .u64 (t1 : Int)) rfl rfl rfl
            · intro W hR
              have hc := (HW.out W (HK.out.trans ((Keeps.refl wr).drew.trans hR.block))).1.1
              clear hR
              go_simp
            simp only [List.set_cons_succ, List.set_cons_zero, Nat.reduceAdd]
            iterate 2
             apply RegT.T_pure rfl rfl rfl
             · intro W hR; go_simp; rfl
             simp only [List.set_cons_succ, List.set_cons_zero, Nat.reduceAdd]
            iterate 2
             apply RegT.T_pure (v := .pointer (some ⟨b2, o2 + k * 2, none⟩)) rfl rfl rfl
             · intro W hR; clear hR; go_simp
             simp only [List.set_cons_succ, List.set_cons_zero, Nat.reduceAdd]
            apply RegT.T_pure (v := .int .u64 (t1 : Int)) rfl rfl rfl
            · intro W hR
              have hc := (HW.out W (HK.out.trans ((Keeps.refl wr).drew.trans hR.block))).2.1
              clear hR
              go_simp
            simp only [List.set_cons_succ, List.set_cons_zero, Nat.reduceAdd]
            apply RegT.T_pure (v := .bool false) rfl rfl rfl
            · intro W hR; clear hR; go_simp
            simp only [List.set_cons_succ, List.set_cons_zero, Nat.reduceAdd]
            iterate 1
             apply RegT.T_pure rfl rfl rfl
             · intro W hR; go_simp; rfl
             simp only [List.set_cons_succ, List.set_cons_zero, Nat.reduceAdd]
            iterate 2
             apply RegT.T_pure rfl rfl rfl
             · intro W hR; go_simp; rfl
             simp only [List.set_cons_succ, List.set_cons_zero, Nat.reduceAdd]
            apply RegT.T_pure (v := .pointer (some ⟨b1, o1 + k * 2, none⟩)) rfl rfl rfl
            · intro W hR; clear hR; go_simp
            simp only [List.set_cons_succ, List.set_cons_zero, Nat.reduceAdd]
            apply RegT.T_pure (v := .pointer (some ⟨b1, o1 + k * 2 + 1, none⟩)) rfl rfl rfl
            · intro W hR; clear hR; go_simp
            simp only [List.set_cons_succ, List.set_cons_zero, Nat.reduceAdd]
            apply RegT.T_pure (v := .slice dp1 l1.length dc1) rfl rfl rfl
            · intro W hR
              have hc := (HW.out W (HK.out.trans ((Keeps.refl wr).drew.trans hR.block))).1.2
              clear hR
              go_simp
            simp only [List.set_cons_succ, List.set_cons_zero, Nat.reduceAdd]
            apply RegT.T_pure (v := .string S1) rfl rfl rfl
            · intro W hR
              have hc := (HC.out W (HK.out.trans ((Keeps.refl wr).drew.trans hR.block))).1
              rw [E1.out] at hc
              clear hR
              go_simp
            simp only [List.set_cons_succ, List.set_cons_zero, Nat.reduceAdd]
            iterate 2
             apply RegT.T_pure rfl rfl rfl
             · intro W hR; go_simp; rfl
             simp only [List.set_cons_succ, List.set_cons_zero, Nat.reduceAdd]
            apply RegT.T_pure (v := .pointer (some ⟨b2, o2 + k * 2, none⟩)) rfl rfl rfl
            · intro W hR; clear hR; go_simp
            simp only [List.set_cons_succ, List.set_cons_zero, Nat.reduceAdd]
            apply RegT.T_pure (v := .pointer (some ⟨b2, o2 + k * 2 + 1, none⟩)) rfl rfl rfl
            · intro W hR; clear hR; go_simp
            simp only [List.set_cons_succ, List.set_cons_zero, Nat.reduceAdd]
            apply RegT.T_pure (v := .slice dp2 l2.length dc2) rfl rfl rfl
            · intro W hR
              have hc := (HW.out W (HK.out.trans ((Keeps.refl wr).drew.trans hR.block))).2.2
              clear hR
              go_simp
            simp only [List.set_cons_succ, List.set_cons_zero, Nat.reduceAdd]
            apply RegT.T_pure (v := .string S2) rfl rfl rfl
            · intro W hR
              have hc := (HC.out W (HK.out.trans ((Keeps.refl wr).drew.trans hR.block))).2
              rw [E2.out] at hc
              clear hR
              go_simp
            iterate 2
             simp only [List.set_cons_succ, List.set_cons_zero, Nat.reduceAdd]
             apply RegT.T_pure (v := .bool true) rfl rfl rfl
             · intro W hR; clear hR; go_simp
            simp only [List.set_cons_succ, List.set_cons_zero, Nat.reduceAdd]
            refine RegT.T_tail (fun W hR hf => ?_)
            have HB2 := zh (HB.out.trans (((Below.refl _ wr).drew.trans hR).mono HB.out.size))
            clear hR hf
            simp only [List.drop_succ_cons, List.drop_zero]
            go_wp2
            go_ret
            exact ⟨by rw [Hne.out (fun e => hll e.2)]; rfl, HB2.out⟩
          · rfl
          · kernel_rfl
      · have ht1 : (t1 == t2) = false := by simp [ht]
        have ht0 : ¬ ((t1 : Int) = (t2 : Int)) := by omega
        have ht2 : decide (t1 = t2) = false := by simp [ht]
        go_wp2
        apply RegT.wp_region_T rfl 43 26 rfl (by kernel_rfl) RegT.Grow RegT.Grow.refl RegT.Grow.trans
        · iterate 2
           apply RegT.T_pure rfl rfl rfl
           · intro W hR; go_simp; rfl
           simp only [List.set_cons_succ, List.set_cons_zero, Nat.reduceAdd]
          iterate 2
           apply RegT.T_pure (v := .pointer (some ⟨b1, o1 + k * 2, none⟩)) rfl rfl rfl
           · intro W hR; clear hR; go_simp
           simp only [List.set_cons_succ, List.set_cons_zero, Nat.reduceAdd]
          apply RegT.T_pure (v := .int .u64 (t1 : Int)) rfl rfl rfl
          · intro W hR
            have hc := (HW.out W (HK.out.trans ((Keeps.refl wr).drew.trans hR.block))).1.1
            clear hR
            go_simp
          simp only [List.set_cons_succ, List.set_cons_zero, Nat.reduceAdd]
          iterate 2
           apply RegT.T_pure rfl rfl rfl
           · intro W hR; go_simp; rfl
           simp only [List.set_cons_succ, List.set_cons_zero, Nat.reduceAdd]
          iterate 2
           apply RegT.T_pure (v := .pointer (some ⟨b2, o2 + k * 2, none⟩)) rfl rfl rfl
           · intro W hR; clear hR; go_simp
           simp only [List.set_cons_succ, List.set_cons_zero, Nat.reduceAdd]
          apply RegT.T_pure (v := .int .u64 (t2 : Int)) rfl rfl rfl
          · intro W hR
            have hc := (HW.out W (HK.out.trans ((Keeps.refl wr).drew.trans hR.block))).2.1
            clear hR
            go_simp
          simp only [List.set_cons_succ, List.set_cons_zero, Nat.reduceAdd]
          apply RegT.T_pure (v := .bool true) rfl rfl rfl
          · intro W hR; clear hR; go_simp
          simp only [List.set_cons_succ, List.set_cons_zero, Nat.reduceAdd]
          iterate 1
           apply RegT.T_pure rfl rfl rfl
           · intro W hR; go_simp; rfl
           simp only [List.set_cons_succ, List.set_cons_zero, Nat.reduceAdd]
          iterate 13
           apply RegT.T_skip rfl rfl rfl
           simp only [List.set_cons_succ, List.set_cons_zero, Nat.reduceAdd]
          apply RegT.T_pure (v := .bool true) rfl rfl rfl
          · intro W hR; clear hR; go_simp
          simp only [List.set_cons_succ, List.set_cons_zero, Nat.reduceAdd]
          refine RegT.T_tail (fun W hR hf => ?_)
          have HB2 := zh (HB.out.trans (((Below.refl _ wr).drew.trans hR).mono HB.out.size))
          clear hR hf
          simp only [List.drop_succ_cons, List.drop_zero]
          go_wp2
          go_ret
          exact ⟨by rw [Hne.out (fun e => ht e.1)]; rfl, HB2.out⟩
        · rfl
        · kernel_rfl
    · have hk2 : k = es.length := by omega
      have Hfin := zh (show decide (es = fs) = true by
       have h1 := HT.out
       rw [hk2, List.take_length, Hl.out, List.take_length] at h1
       simp [h1])
      go_wp2
      go_ret
      exact ⟨by rw [Hfin.out]; rfl, HB.out⟩
 · have e1 : ((es.length : Int) == (fs.length : Int)) = false := by simp; omega
   have e2 : (es.length == fs.length) = false := by simp [hl]
   have e3 : decide (es.length = fs.length) = false := by simp [hl]
   have Hf := zh (show decide (es = fs) = false by simp only [decide_eq_false_iff_not]; intro e; exact hl (by rw [e]))
   clear hl
   go_enter Try.func29, Try.ntmps29
   go_wp2
   go_ret
   exact ⟨by rw [Hf.out]; rfl, Below.refl _ _⟩
end Go.Proofs.Yteellfgiejnigaa
namespace Go.Proofs.Yteellfgiejnigaa
open Go.ChangeShapes Go.WideShapes Go.ChangeAt Go.RowKit Go.Deep
set_option linter.unusedVariables false
theorem list_of_fn {α : Type} [Inhabited α] (n : Nat) (p : Nat → α → Prop) (h : ∀ i, i < n → ∃ x, p i x) : ∃ l : List α, l.length = n ∧ ∀ i, i < n → p i (l.getD i default) := by
 obtain ⟨f, hf⟩ := choose_lt h
 refine ⟨(List.range n).map f, by simp, fun i hi => ?_⟩
 have : ((List.range n).map f).getD i default = f i := by
  rw [getD_of_lt _ _ _ (by simpa using hi)]; simp
 rw [this]; exact hf i hi
section
variable {H : Type} {enc : TypeId × Value → H} {w : World} {base : Nat} {held : Bool}
end
end Go.Proofs.Yteellfgiejnigaa
namespace Go.Proofs.Yteellfgiejnigaa
open Go.ChangeShapes Go.WideShapes Go.ChangeAt Go.RowKit
set_option linter.unusedVariables false
end Go.Proofs.Yteellfgiejnigaa
namespace Go.Proofs.Yteellfgiejnigaa
set_option linter.unusedVariables false
end Go.Proofs.Yteellfgiejnigaa
namespace Go.Proofs.Yteellfgiejnigaa
open Go.ChangeShapes Go.WideShapes Go.ChangeAt Go.RowKit
set_option linter.unusedVariables false
theorem EsR.touch {S R : Foot} {w w' : World} {v : Value} {es : List Ent} (h : EsR w R v es) (t : Touch S w w') (hd : ∀ b, b < w.heap.size → R b → ¬ S b) : EsR w' R v es :=
 ((h.mono (S' := fun b => R b ∧ b < w.heap.size) fun b hb k => ⟨k, hb⟩).frame (t.same (fun b hb => hb.2) fun b hb => hd b hb.2 hb.1)).mono fun b _ hb => hb.1
theorem EsG.touch {S R : Foot} {w w' : World} {e : TypeId} {v : Value} {es : List Ent} (h : EsG w R e v es) (t : Touch S w w') (hd : ∀ b, b < w.heap.size → R b → ¬ S b) : EsG w' R e v es :=
 ((h.mono (S' := fun b => R b ∧ b < w.heap.size) fun b hb k => ⟨k, hb⟩).frame (t.same (fun b hb => hb.2) fun b hb => hd b hb.2 hb.1)).mono fun b _ hb => hb.1
theorem EsR.len_form {w : World} {S : Foot} {v : Value} {es : List Ent} (h : EsR w S v es) : ∃ p c, v = .slice p es.length c := by obtain ⟨p, c, xs, e, _⟩ := h; exact ⟨p, c, e⟩
theorem EsR.hi {w : World} {S : Foot} {p : Option Addr} {n c : Nat} {es : List Ent} (h : EsR w S (.slice p n c) es) {m : Nat} (hm : m ≤ es.length) : EsR w S (.slice p m c) (es.take m) := by
 obtain ⟨p', c', xs, e, h1, h2, h3, h4, h5⟩ := h
 cases e
 have hl : (es.take m).length = m := by rw [List.length_take]; omega
 refine ⟨p, c, xs.take (m * 2), by rw [hl], by omega, h2, h3, h4.take m, fun hne => ?_⟩
 obtain ⟨b, off, hp, hb, hlt, hc⟩ := h5 (by intro e; subst e; simp at hne)
 refine ⟨b, off, hp, hb, hlt, fun j u hu => ?_⟩
 rw [List.getElem?_take] at hu
 split at hu
 · exact hc j u hu
 · cases hu
end Go.Proofs.Yteellfgiejnigaa
