/- The walk of Slice. -/
import Derived.Test.YteellfgiejnigaaT8
namespace Go.Proofs.Yteellfgiejnigaa
open Go.ChangeShapes Go.WideShapes Go.ChangeAt Go.RowKit
set_option linter.unusedVariables false

theorem run_slice_lo_u (t e : TypeId) (ht : Try.prog.underlying t = some (.slice e)) (sz : Nat) (hsz : (Try.prog.info? e).map (·.size) = some sz) (p : Option Addr) (len cap : Nat) (l : Nat) (hl : l ≤ len) (w : World) :
    (Instr.sliceAt t (.slice p len cap) (some (.int .u64 (l : Int))) none none).run Try.prog w = .ok (.slice (if cap = l then p else p.map (·.add (l * sz))) (len - l) (cap - l)) w := by
  obtain ⟨i, hi, hsi⟩ := Option.map_eq_some_iff.1 hsz
  simp [Instr.sliceAt, Instr.slice, Instr.sliceBounds, Instr.sliceBound, asIntOf, Sem.run_bind, run_underlying ht, sizeOf, typeInfo, hi, hsi, hl]
/-- Some entries, from an index on. -/
def sliceR (B : Nat) (es : List Ent) (fr : Nat) (most : Int) : List Ent := if fr ≤ B ∨ B + es.length < fr ∨ most < 1 then [] else (es.drop (fr - B - 1)).take most.toNat

set_option maxRecDepth 100000 in
set_option maxHeartbeats 3200000 in
theorem slice_w (S : Foot) (g B T fr : Nat) (most : Int) (v : Value) (es : List Ent) (w : World) (h : TkAt w S g B T v es) (hn : es.length ≤ 1000000) (hl : ∀ e ∈ es, e.2.length ≤ 1000000) (hf : fr < 2 ^ 64) (hm : -9223372036854775808 ≤ most ∧ most ≤ 9223372036854775807) :
    Calls Try.prog 25 #[.pointer (some ⟨g, 0, none⟩), .int .u64 (fr : Int), .int .i64 most] w fun r w' => ∃ u, r = .returned u ∧ EsG w' (fun b => w.heap.size ≤ b) 53 u (sliceR B es fr most) ∧ Below w.heap.size w w' := by
  have H := Lib.hid (h.mono (S' := fun b => S b ∧ b < w.heap.size) fun b hb hs => ⟨hs, hb⟩)
  have Hlast := Lib.hid (last_w S g B T v es w h)
  have Hl := Lib.hid hl
  have c0 := h.c0
  have hfi := h.fits
  unfold sliceR
  by_cases h1 : fr ≤ B
  · rw [if_pos (.inl h1)]
    have e1 : decide (fr ≤ B) = true := by simp [h1]
    clear h Hlast
    go_enter Try.func25, Try.ntmps25
    go_wp2
    go_ret
    exact ⟨_, rfl, .inl ⟨rfl, rfl⟩, Below.refl _ _⟩
  · have e1 : decide (fr ≤ B) = false := by simp; omega
    by_cases h2 : B + es.length < fr
    · rw [if_pos (.inr (.inl h2))]
      have e2 : decide (B + es.length < fr) = true := by simp [h2]
      generalize B + es.length = L at *
      clear h
      go_enter Try.func25, Try.ntmps25
      go_wp2_with (go_at_call 76; refine (Hlast.out).mono ?_; rintro r w1 ⟨rfl, hB⟩; have HB := Lib.hid hB; clear hB)
      go_ret
      exact ⟨_, rfl, .inl ⟨rfl, rfl⟩, HB.out⟩
    · have e2 : decide (B + es.length < fr) = false := by simp; omega
      by_cases h3 : most < 1
      · rw [if_pos (.inr (.inr h3))]
        have e3 : decide (most < 1) = true := by simp [h3]
        generalize B + es.length = L at *
        clear h
        go_enter Try.func25, Try.ntmps25
        go_wp2_with (go_at_call 76; refine (Hlast.out).mono ?_; rintro r w1 ⟨rfl, hB⟩; have HB := Lib.hid hB; clear hB)
        go_ret
        exact ⟨_, rfl, .inl ⟨rfl, rfl⟩, HB.out⟩
      · rw [if_neg (by omega)]
        have e3 : decide (most < 1) = false := by simp; omega
        obtain ⟨k0, hk0⟩ : ∃ k0, k0 = fr - B - 1 := ⟨_, rfl⟩
        rw [← hk0]
        have hkn : k0 < es.length := by omega
        obtain ⟨b, off, n, c, d, hv, hnn, z1, z2, z3⟩ := h.own.rd.elem k0 hkn
        clear z1 z2 z3
        have hcap : es.length ≤ c := by obtain ⟨p, c', xs, e, q, _⟩ := h.own.rd; rw [hv] at e; cases e; exact q
        subst hv hnn
        obtain ⟨m, hmm⟩ : ∃ m, m = min most.toNat (es.length - k0) := ⟨_, rfl⟩
        obtain ⟨n1, hn1⟩ : ∃ n1, n1 = es.length - k0 := ⟨_, rfl⟩
        obtain ⟨c1, hc1⟩ : ∃ c1, c1 = c - k0 := ⟨_, rfl⟩
        have hs1 : ∀ x : World, (Instr.sliceAt 28 (.slice (some ⟨b, off, none⟩) es.length c) (some (.int .u64 (k0 : Int))) none none).run Try.prog x = .ok (.slice (some ⟨b, off + k0 * 2, none⟩) n1 c1) x := fun x => by
          rw [run_slice_lo_u 28 53 Try.underlying28 2 (by kernel_rfl) (some ⟨b, off, none⟩) es.length c k0 (by omega) x, if_neg (by omega), hn1, hc1]
          simp [Addr.add_mid]
        have hs2 : ∀ x : World, (Instr.sliceAt 28 (.slice (some ⟨b, off + k0 * 2, none⟩) n1 c1) none (some (.int .i64 (m : Int))) none).run Try.prog x = .ok (.slice (some ⟨b, off + k0 * 2, none⟩) m c1) x := fun x =>
          run_slice_hi (P := Try.prog) 28 53 Try.underlying28 2 (by kernel_rfl) (some ⟨b, off + k0 * 2, none⟩) n1 c1 m (by omega) x
        have e5 : IntKind.u64.wrap ((fr : Int) - (B : Int)) = (k0 : Int) + 1 := by rw [IntWalk.u64_in _ (by omega)]; omega
        have e6 : IntKind.u64.wrap ((k0 : Int) + 1 - 1) = (k0 : Int) := by rw [IntWalk.u64_in _ (by omega)]; omega
        have e7 : (k0 : Int) + 1 - 1 = (k0 : Int) := by omega
        have e8 : IntKind.u64.wrap (k0 : Int) = (k0 : Int) := IntWalk.u64_in _ (by omega)
        obtain ⟨q, hq⟩ : ∃ q : Nat, most = (q : Int) := ⟨most.toNat, by omega⟩
        have Hq := Lib.hid (show most.toNat = q by omega)
        have hmq : m = min q n1 := by rw [hmm, Hq.out, hn1]
        have Hmq := Lib.hid hmq
        have Hn1 := Lib.hid hn1
        have Hm1 := Lib.hid (show m ≤ n1 by omega)
        have hm6 : m ≤ 1000000 := by omega
        have hn6 : n1 ≤ 1000000 := by omega
        have Hk0 := Lib.hid hk0
        have Hfin := Lib.hid (show (es.drop k0).take most.toNat = (es.drop k0).take m by rw [List.take_eq_take_iff, List.length_drop]; omega)
        have Hkm := Lib.hid (show k0 + m ≤ es.length by omega)
        subst hq
        generalize B + es.length = L at *
        have hway : (q < n1 ∧ m = q) ∨ (q = n1 ∧ m = n1) ∨ (n1 < q ∧ m = n1) := by omega
        clear h h1 h2 h3 hk0 hkn hcap hmm hn1 hc1 hmq hl
        rcases hway with ⟨hlt, rfl⟩ | ⟨rfl, rfl⟩ | ⟨hlt, rfl⟩
        · go_enter Try.func25, Try.ntmps25
          go_wp2_with (go_at_call 76; refine (Hlast.out).mono ?_; rintro r w1 ⟨rfl, hB⟩; have HB := Lib.hid hB; have H1 := Lib.hid (H.out.keeps hB.block); have c0 := H1.out.c0; have c2 := H1.out.c2; clear hB)
          go_quiet (fail)
          go_wp2
          have HBq := Lib.hid (show Below w.heap.size w (w1.drewN nq) from HB.out.trans ⟨rfl, rfl, rfl, Nat.le_refl _, fun _ _ => rfl⟩)
          go_loopw [7, 50] (fun v i wr => ∃ (k : Nat) (p : Option Addr) (n c : Nat), k ≤ m ∧ i = .int .i64 (k : Int) ∧ v = .slice p n c ∧ Hid (EsG wr (fun b => w.heap.size ≤ b) 53 (.slice p n c) ((es.drop k0).take k)) ∧ Hid (Below w.heap.size w wr)) (fun _ i _ => m - (intOf i).toNat)
          case atStart => exact ⟨0, none, 0, 0, Nat.zero_le _, rfl, rfl, Lib.hid (.inl ⟨rfl, by simp⟩), HBq⟩
          case round =>
            obtain ⟨k, p, n, c3, hk, rfl, rfl, HE, HBr⟩ := hrel
            by_cases hlk : k < m
            · have hkj : k0 + k < es.length := by have := Hkm.out; omega
              have hT := H.out.frame (fun b hb => HBr.out.block b hb.2)
              obtain ⟨b2, off2, n2, c2, d, hsv, hnn, hrange, hda, htl⟩ := hT.own.rd.elem (k0 + k) hkj
              cases hsv
              have Hra := Lib.hid (show wr.rangeAt b (off + k0 * 2 + k * 2) [.int .u64 ((es[k0 + k].1 : Nat) : Int), d] by rw [show off + k0 * 2 + k * 2 = off + (k0 + k) * 2 by omega]; exact hrange)
              have Htl := Lib.hid htl
              have Hes := Lib.hid (show (es.drop k0).take (k + 1) = (es.drop k0).take k ++ [(es[k0 + k].1, es[k0 + k].2)] by
                rw [List.take_succ_eq_append_getElem (by rw [List.length_drop]; omega)]; simp)
              have hll := Hl.out es[k0 + k] (List.getElem_mem _)
              have HZ := Lib.hid (heap_alloc_new wr (.cells #[.int .u64 0, .slice none 0 0] 53))
              have hlen : ((es.drop k0).take k).length ≤ 1000000 - 1 := by rw [List.length_take, List.length_drop]; omega
              generalize es[k0 + k].1 = t at *
              generalize es[k0 + k].2 = le at *
              obtain ⟨pd, cd, rfl⟩ : ∃ p c, d = .slice p le.length c := by obtain ⟨p, c, h1, _⟩ := hda.rd; exact ⟨p, c, h1⟩
              obtain ⟨W2, HW2, hE, hB2⟩ := stored53 wr t (.slice pd le.length cd)
              have HE1 := Lib.hid hE
              have HD := Lib.hid (hda.rd.below hB2)
              have HB2 := Lib.hid hB2
              have HEg := Lib.hid (HE.out.keeps hB2.block)
              have HBw := Lib.hid (HBr.out.trans (hB2.mono HBr.out.size))
              clear hrange hda htl hE hB2 hT hnn hkj
              go_wp2_with (first
                | (refine wpList_load_mid rfl 53 (.tmp 52) rfl _ _ rfl [.int .u64 (t : Int), .slice pd le.length cd] _ Hra.out Try.underlying53 rfl (show _ = some 2 by kernel_rfl) ?_)
                | (refine wpList_alloc_zero rfl 53 rfl _ hz53 ?_)
                | (refine wpList_store_rowTo rfl 53 (.tmp 10) (.tmp 53) rfl rfl _ #[.int .u64 (t : Int), .slice pd le.length cd] rfl rfl 53 #[.int .u64 0, .slice none 0 0] HZ.out (show _ = some 2 by kernel_rfl) rfl (ent_one _ _ _ _) ?_; rw [HW2.out])
                | (refine wpList_load_row rfl 53 (.tmp 10) rfl _ rfl _ _ _ _ HE1.out Try.underlying53 rfl (show _ = some 2 by kernel_rfl) ?_)
                | (go_at_call 78; refine (copied_w t (.slice pd le.length cd) le _ HD.out (by omega)).mono ?_; rintro r w5 ⟨p5, c5, rfl, hd5, hB⟩; have HD5 := Lib.hid (hd5.keeps ((Keeps.refl w5).alloc (.cells #[.int .u64 (t : Int), .slice p5 le.length c5] 53))); have HN5 := Lib.hid (EntAt.new w5 t (.slice p5 le.length c5)); have HE5 := Lib.hid ((HEg.out.keeps hB.block).keeps ((Keeps.refl w5).alloc (.cells #[.int .u64 (t : Int), .slice p5 le.length c5] 53))); have hsz5 := hB.size; have HB5 := Lib.hid ((HBw.out.trans (hB.mono HBw.out.size)).alloc (Nat.le_trans HBw.out.size hB.size) (.cells #[.int .u64 (t : Int), .slice p5 le.length c5] 53)); clear hd5 hB)
                | (refine wpList_append_esg rfl (.tmp 54) (.tmp 57) rfl (S' := fun b => w.heap.size ≤ b) rfl HE5.out rfl (fs := [(t, le)]) (EsC.cons Htl.out (HD5.out.mono fun b _ hb => (⟨Nat.le_trans HBw.out.size hb, fun e => by have hb2 : W2.heap.size ≤ b := hb; have := (HEg.out.foot b e).2; omega⟩ : (w.heap.size ≤ b) ∧ (Value.slice p n c3).ownBlock ≠ some b)) .nil) (.inr ⟨_, rfl, ent_cells HN5.out⟩) (by simp; omega) (fun b hb => hb) (by have := HB5.out.size; exact this) ?_; intro p6 n6 c6 w6 ho hg; have HE6 := Lib.hid ho; have HB6 := Lib.hid (HB5.out.grown hg HB5.out.size (fun g e => (HE5.out.foot g e).1)); clear ho hg))
              go_roundw
              case rel => exact ⟨k + 1, p6, n6, c6, by omega, by go_num, rfl, by rw [Hes.out]; exact HE6, HB6⟩
              case measure => simp [intOf]; omega
            · have hk2 : k = m := by omega
              go_wp2
              go_ret
              have h1 := HE.out
              rw [hk2] at h1
              exact ⟨_, rfl, by rw [Hfin.out]; exact h1, HBr.out⟩
        · go_enter Try.func25, Try.ntmps25
          go_wp2_with (go_at_call 76; refine (Hlast.out).mono ?_; rintro r w1 ⟨rfl, hB⟩; have HB := Lib.hid hB; have H1 := Lib.hid (H.out.keeps hB.block); have c0 := H1.out.c0; have c2 := H1.out.c2; clear hB)
          go_quiet (fail)
          go_wp2
          have HBq := Lib.hid (show Below w.heap.size w (w1.drewN nq) from HB.out.trans ⟨rfl, rfl, rfl, Nat.le_refl _, fun _ _ => rfl⟩)
          go_loopw [7, 50] (fun v i wr => ∃ (k : Nat) (p : Option Addr) (n c : Nat), k ≤ m ∧ i = .int .i64 (k : Int) ∧ v = .slice p n c ∧ Hid (EsG wr (fun b => w.heap.size ≤ b) 53 (.slice p n c) ((es.drop k0).take k)) ∧ Hid (Below w.heap.size w wr)) (fun _ i _ => m - (intOf i).toNat)
          case atStart => exact ⟨0, none, 0, 0, Nat.zero_le _, rfl, rfl, Lib.hid (.inl ⟨rfl, by simp⟩), HBq⟩
          case round =>
            obtain ⟨k, p, n, c3, hk, rfl, rfl, HE, HBr⟩ := hrel
            by_cases hlk : k < m
            · have hkj : k0 + k < es.length := by have := Hkm.out; omega
              have hT := H.out.frame (fun b hb => HBr.out.block b hb.2)
              obtain ⟨b2, off2, n2, c2, d, hsv, hnn, hrange, hda, htl⟩ := hT.own.rd.elem (k0 + k) hkj
              cases hsv
              have Hra := Lib.hid (show wr.rangeAt b (off + k0 * 2 + k * 2) [.int .u64 ((es[k0 + k].1 : Nat) : Int), d] by rw [show off + k0 * 2 + k * 2 = off + (k0 + k) * 2 by omega]; exact hrange)
              have Htl := Lib.hid htl
              have Hes := Lib.hid (show (es.drop k0).take (k + 1) = (es.drop k0).take k ++ [(es[k0 + k].1, es[k0 + k].2)] by
                rw [List.take_succ_eq_append_getElem (by rw [List.length_drop]; omega)]; simp)
              have hll := Hl.out es[k0 + k] (List.getElem_mem _)
              have HZ := Lib.hid (heap_alloc_new wr (.cells #[.int .u64 0, .slice none 0 0] 53))
              have hlen : ((es.drop k0).take k).length ≤ 1000000 - 1 := by rw [List.length_take, List.length_drop]; omega
              generalize es[k0 + k].1 = t at *
              generalize es[k0 + k].2 = le at *
              obtain ⟨pd, cd, rfl⟩ : ∃ p c, d = .slice p le.length c := by obtain ⟨p, c, h1, _⟩ := hda.rd; exact ⟨p, c, h1⟩
              obtain ⟨W2, HW2, hE, hB2⟩ := stored53 wr t (.slice pd le.length cd)
              have HE1 := Lib.hid hE
              have HD := Lib.hid (hda.rd.below hB2)
              have HB2 := Lib.hid hB2
              have HEg := Lib.hid (HE.out.keeps hB2.block)
              have HBw := Lib.hid (HBr.out.trans (hB2.mono HBr.out.size))
              clear hrange hda htl hE hB2 hT hnn hkj
              go_wp2_with (first
                | (refine wpList_load_mid rfl 53 (.tmp 52) rfl _ _ rfl [.int .u64 (t : Int), .slice pd le.length cd] _ Hra.out Try.underlying53 rfl (show _ = some 2 by kernel_rfl) ?_)
                | (refine wpList_alloc_zero rfl 53 rfl _ hz53 ?_)
                | (refine wpList_store_rowTo rfl 53 (.tmp 10) (.tmp 53) rfl rfl _ #[.int .u64 (t : Int), .slice pd le.length cd] rfl rfl 53 #[.int .u64 0, .slice none 0 0] HZ.out (show _ = some 2 by kernel_rfl) rfl (ent_one _ _ _ _) ?_; rw [HW2.out])
                | (refine wpList_load_row rfl 53 (.tmp 10) rfl _ rfl _ _ _ _ HE1.out Try.underlying53 rfl (show _ = some 2 by kernel_rfl) ?_)
                | (go_at_call 78; refine (copied_w t (.slice pd le.length cd) le _ HD.out (by omega)).mono ?_; rintro r w5 ⟨p5, c5, rfl, hd5, hB⟩; have HD5 := Lib.hid (hd5.keeps ((Keeps.refl w5).alloc (.cells #[.int .u64 (t : Int), .slice p5 le.length c5] 53))); have HN5 := Lib.hid (EntAt.new w5 t (.slice p5 le.length c5)); have HE5 := Lib.hid ((HEg.out.keeps hB.block).keeps ((Keeps.refl w5).alloc (.cells #[.int .u64 (t : Int), .slice p5 le.length c5] 53))); have hsz5 := hB.size; have HB5 := Lib.hid ((HBw.out.trans (hB.mono HBw.out.size)).alloc (Nat.le_trans HBw.out.size hB.size) (.cells #[.int .u64 (t : Int), .slice p5 le.length c5] 53)); clear hd5 hB)
                | (refine wpList_append_esg rfl (.tmp 54) (.tmp 57) rfl (S' := fun b => w.heap.size ≤ b) rfl HE5.out rfl (fs := [(t, le)]) (EsC.cons Htl.out (HD5.out.mono fun b _ hb => (⟨Nat.le_trans HBw.out.size hb, fun e => by have hb2 : W2.heap.size ≤ b := hb; have := (HEg.out.foot b e).2; omega⟩ : (w.heap.size ≤ b) ∧ (Value.slice p n c3).ownBlock ≠ some b)) .nil) (.inr ⟨_, rfl, ent_cells HN5.out⟩) (by simp; omega) (fun b hb => hb) (by have := HB5.out.size; exact this) ?_; intro p6 n6 c6 w6 ho hg; have HE6 := Lib.hid ho; have HB6 := Lib.hid (HB5.out.grown hg HB5.out.size (fun g e => (HE5.out.foot g e).1)); clear ho hg))
              go_roundw
              case rel => exact ⟨k + 1, p6, n6, c6, by omega, by go_num, rfl, by rw [Hes.out]; exact HE6, HB6⟩
              case measure => simp [intOf]; omega
            · have hk2 : k = m := by omega
              go_wp2
              go_ret
              have h1 := HE.out
              rw [hk2] at h1
              exact ⟨_, rfl, by rw [Hfin.out]; exact h1, HBr.out⟩
        · go_enter Try.func25, Try.ntmps25
          go_wp2_with (go_at_call 76; refine (Hlast.out).mono ?_; rintro r w1 ⟨rfl, hB⟩; have HB := Lib.hid hB; have H1 := Lib.hid (H.out.keeps hB.block); have c0 := H1.out.c0; have c2 := H1.out.c2; clear hB)
          go_quiet (fail)
          go_wp2
          have HBq := Lib.hid (show Below w.heap.size w (w1.drewN nq) from HB.out.trans ⟨rfl, rfl, rfl, Nat.le_refl _, fun _ _ => rfl⟩)
          go_loopw [7, 50] (fun v i wr => ∃ (k : Nat) (p : Option Addr) (n c : Nat), k ≤ m ∧ i = .int .i64 (k : Int) ∧ v = .slice p n c ∧ Hid (EsG wr (fun b => w.heap.size ≤ b) 53 (.slice p n c) ((es.drop k0).take k)) ∧ Hid (Below w.heap.size w wr)) (fun _ i _ => m - (intOf i).toNat)
          case atStart => exact ⟨0, none, 0, 0, Nat.zero_le _, rfl, rfl, Lib.hid (.inl ⟨rfl, by simp⟩), HBq⟩
          case round =>
            obtain ⟨k, p, n, c3, hk, rfl, rfl, HE, HBr⟩ := hrel
            by_cases hlk : k < m
            · have hkj : k0 + k < es.length := by have := Hkm.out; omega
              have hT := H.out.frame (fun b hb => HBr.out.block b hb.2)
              obtain ⟨b2, off2, n2, c2, d, hsv, hnn, hrange, hda, htl⟩ := hT.own.rd.elem (k0 + k) hkj
              cases hsv
              have Hra := Lib.hid (show wr.rangeAt b (off + k0 * 2 + k * 2) [.int .u64 ((es[k0 + k].1 : Nat) : Int), d] by rw [show off + k0 * 2 + k * 2 = off + (k0 + k) * 2 by omega]; exact hrange)
              have Htl := Lib.hid htl
              have Hes := Lib.hid (show (es.drop k0).take (k + 1) = (es.drop k0).take k ++ [(es[k0 + k].1, es[k0 + k].2)] by
                rw [List.take_succ_eq_append_getElem (by rw [List.length_drop]; omega)]; simp)
              have hll := Hl.out es[k0 + k] (List.getElem_mem _)
              have HZ := Lib.hid (heap_alloc_new wr (.cells #[.int .u64 0, .slice none 0 0] 53))
              have hlen : ((es.drop k0).take k).length ≤ 1000000 - 1 := by rw [List.length_take, List.length_drop]; omega
              generalize es[k0 + k].1 = t at *
              generalize es[k0 + k].2 = le at *
              obtain ⟨pd, cd, rfl⟩ : ∃ p c, d = .slice p le.length c := by obtain ⟨p, c, h1, _⟩ := hda.rd; exact ⟨p, c, h1⟩
              obtain ⟨W2, HW2, hE, hB2⟩ := stored53 wr t (.slice pd le.length cd)
              have HE1 := Lib.hid hE
              have HD := Lib.hid (hda.rd.below hB2)
              have HB2 := Lib.hid hB2
              have HEg := Lib.hid (HE.out.keeps hB2.block)
              have HBw := Lib.hid (HBr.out.trans (hB2.mono HBr.out.size))
              clear hrange hda htl hE hB2 hT hnn hkj
              go_wp2_with (first
                | (refine wpList_load_mid rfl 53 (.tmp 52) rfl _ _ rfl [.int .u64 (t : Int), .slice pd le.length cd] _ Hra.out Try.underlying53 rfl (show _ = some 2 by kernel_rfl) ?_)
                | (refine wpList_alloc_zero rfl 53 rfl _ hz53 ?_)
                | (refine wpList_store_rowTo rfl 53 (.tmp 10) (.tmp 53) rfl rfl _ #[.int .u64 (t : Int), .slice pd le.length cd] rfl rfl 53 #[.int .u64 0, .slice none 0 0] HZ.out (show _ = some 2 by kernel_rfl) rfl (ent_one _ _ _ _) ?_; rw [HW2.out])
                | (refine wpList_load_row rfl 53 (.tmp 10) rfl _ rfl _ _ _ _ HE1.out Try.underlying53 rfl (show _ = some 2 by kernel_rfl) ?_)
                | (go_at_call 78; refine (copied_w t (.slice pd le.length cd) le _ HD.out (by omega)).mono ?_; rintro r w5 ⟨p5, c5, rfl, hd5, hB⟩; have HD5 := Lib.hid (hd5.keeps ((Keeps.refl w5).alloc (.cells #[.int .u64 (t : Int), .slice p5 le.length c5] 53))); have HN5 := Lib.hid (EntAt.new w5 t (.slice p5 le.length c5)); have HE5 := Lib.hid ((HEg.out.keeps hB.block).keeps ((Keeps.refl w5).alloc (.cells #[.int .u64 (t : Int), .slice p5 le.length c5] 53))); have hsz5 := hB.size; have HB5 := Lib.hid ((HBw.out.trans (hB.mono HBw.out.size)).alloc (Nat.le_trans HBw.out.size hB.size) (.cells #[.int .u64 (t : Int), .slice p5 le.length c5] 53)); clear hd5 hB)
                | (refine wpList_append_esg rfl (.tmp 54) (.tmp 57) rfl (S' := fun b => w.heap.size ≤ b) rfl HE5.out rfl (fs := [(t, le)]) (EsC.cons Htl.out (HD5.out.mono fun b _ hb => (⟨Nat.le_trans HBw.out.size hb, fun e => by have hb2 : W2.heap.size ≤ b := hb; have := (HEg.out.foot b e).2; omega⟩ : (w.heap.size ≤ b) ∧ (Value.slice p n c3).ownBlock ≠ some b)) .nil) (.inr ⟨_, rfl, ent_cells HN5.out⟩) (by simp; omega) (fun b hb => hb) (by have := HB5.out.size; exact this) ?_; intro p6 n6 c6 w6 ho hg; have HE6 := Lib.hid ho; have HB6 := Lib.hid (HB5.out.grown hg HB5.out.size (fun g e => (HE5.out.foot g e).1)); clear ho hg))
              go_roundw
              case rel => exact ⟨k + 1, p6, n6, c6, by omega, by go_num, rfl, by rw [Hes.out]; exact HE6, HB6⟩
              case measure => simp [intOf]; omega
            · have hk2 : k = m := by omega
              go_wp2
              go_ret
              have h1 := HE.out
              rw [hk2] at h1
              exact ⟨_, rfl, by rw [Hfin.out]; exact h1, HBr.out⟩
end Go.Proofs.Yteellfgiejnigaa
