/- Walks of the document's Slice and Meet. -/
import Derived.Test.YteellfgiejnigaaT27
import Derived.Test.YteellfgiejnigaaT13
namespace Go.Proofs.Yteellfgiejnigaa
open Go.ChangeShapes Go.WideShapes Go.ChangeAt Go.RowKit
set_option linter.unusedVariables false

section
variable {ops : Array Oper} {rest : List Oper} {o : Oper} {a : Act} {w : World} {Q : Exit → Act → World → Prop}
theorem wpList_append_esg2 (hgd : o.guard = none) (s x : Operand) (ho : o.op = .call { callee := .builtin .append, args := #[s, x], argTypes := #[28, 28] }) {S S' : Foot}
    {v : Value} {es : List Ent} (hs : a.eval s = v) (hown : EsG w S 53 v es) {p : Option Addr} {c : Nat} {ys : List Value} {fs : List Ent} (hx : a.eval x = .slice p fs.length c) (hys : EsC w (fun b => S' b ∧ v.ownBlock ≠ some b) ys fs)
    (hsrc : (p = none ∧ fs = [] ∧ c = 0) ∨ ∃ a, p = some a ∧ ∀ j u, ys[j]? = some u → w.cell? (a.add j) = some u)
    (hlen : es.length + fs.length ≤ 1000000) (hS : ∀ b, S b → S' b) (hnew : S' w.heap.size)
    (h : ∀ p n c w', EsG w' S' 53 (.slice p n c) (es ++ fs) → w.grownBy w' v.ownBlock → ((Value.slice p n c).ownBlock = v.ownBlock ∨ (Value.slice p n c).ownBlock = some w.heap.size) → n = es.length + fs.length → wpList Try.prog ops Q rest (a.put o.dst (.slice p n c)) w') : wpList Try.prog ops Q (o :: rest) a w := by
  refine wpList_plain hgd fun _ hK => ?_
  obtain ⟨v', w', hr, h2, h3, h4, _⟩ := run_append_esg (P := Try.prog) (ty := o.type) helE hown hys hsrc (by unfold maxLen; omega) (by omega) hS hnew
  obtain ⟨p2, c2, rfl⟩ := h2.form
  unfold Oper.wp execOp
  simp only [ho, resolve, invoke, builtin, Sem.run_bind, Sem.run_pure, Result.andThen_ok, List.map_toArray, List.map_cons, List.map_nil, hs, hx, hr]
  exact hK _ _ (h p2 _ c2 w' h2 h3 h4 List.length_append)
end

set_option maxRecDepth 100000 in
set_option maxHeartbeats 3200000 in
theorem rslice_w (S : Foot) (g B T fr : Nat) (most : Int) (v : Value) (es : List Ent) (w : World) (h : RkAt w S g B T v es) (hn : es.length ≤ 1000000) (hf : fr < 2 ^ 64) (hm : -9223372036854775808 ≤ most ∧ most ≤ 9223372036854775807) :
    Calls Try.prog 37 #[.pointer (some ⟨g, 0, none⟩), .int .u64 (fr : Int), .int .i64 most] w fun r w' => ∃ u, r = .returned u ∧ EsR w' (fun b => S b ∨ w.heap.size ≤ b) u (sliceR B es fr most) ∧ Below w.heap.size w w' := by
  have H := Lib.hid (h.mono (S' := fun b => S b ∧ b < w.heap.size) fun b hb hs => ⟨hs, hb⟩)
  have Hlast := Lib.hid (rlast_w S g B T v es w h)
  have c0 := h.c0
  have hfi := h.fits
  unfold sliceR
  by_cases h1 : fr ≤ B
  · rw [if_pos (.inl h1)]
    have e1 : decide (fr ≤ B) = true := by simp [h1]
    clear h Hlast
    go_enter Try.func37, Try.ntmps37
    go_wp2
    go_ret
    exact ⟨_, rfl, EsR.nil _ _, Below.refl _ _⟩
  · have e1 : decide (fr ≤ B) = false := by simp; omega
    by_cases h2 : B + es.length < fr
    · rw [if_pos (.inr (.inl h2))]
      have e2 : decide (B + es.length < fr) = true := by simp [h2]
      generalize B + es.length = L at *
      clear h
      go_enter Try.func37, Try.ntmps37
      go_wp2_with (go_at_call 80; refine (Hlast.out).mono ?_; rintro r w1 ⟨rfl, hB⟩; have HB := Lib.hid hB; clear hB)
      go_ret
      exact ⟨_, rfl, EsR.nil _ _, HB.out⟩
    · have e2 : decide (B + es.length < fr) = false := by simp; omega
      obtain ⟨k0, hk0⟩ : ∃ k0, k0 = fr - B - 1 := ⟨_, rfl⟩
      have Hres := Lib.hid (show (if fr ≤ B ∨ B + es.length < fr ∨ most < 1 then [] else (es.drop (fr - B - 1)).take most.toNat) = (es.drop k0).take most.toNat by
        by_cases h3 : most < 1
        · rw [if_pos (.inr (.inr h3)), show most.toNat = 0 by omega]; rfl
        · rw [if_neg (by omega), hk0])
      rw [Hres.out]
      have hkn : k0 < es.length := by omega
      obtain ⟨b, off, n, c, d, hv, hnn, z1, z2, z3⟩ := h.own.rd.elem k0 hkn
      clear z1 z2 z3
      subst hv hnn
      have e5 : IntKind.u64.wrap ((fr : Int) - (B : Int)) = (k0 : Int) + 1 := by rw [IntWalk.u64_in _ (by omega)]; omega
      have e6 : IntKind.u64.wrap ((k0 : Int) + 1 - 1) = (k0 : Int) := by rw [IntWalk.u64_in _ (by omega)]; omega
      have e7 : (k0 : Int) + 1 - 1 = (k0 : Int) := by omega
      have e8 : IntKind.u64.wrap (k0 : Int) = (k0 : Int) := IntWalk.u64_in _ (by omega)
      have e9 : IntKind.u64.wrap (es.length : Int) = (es.length : Int) := IntWalk.u64_in _ (by omega)
      have hk06 : k0 ≤ 1000000 := by omega
      generalize B + es.length = L at *
      have Hkn := Lib.hid hkn
      clear h h1 h2 hk0 hfi Hres hkn
      go_enter Try.func37, Try.ntmps37
      go_wp2_with (go_at_call 80; refine (Hlast.out).mono ?_; rintro r w1 ⟨rfl, hB⟩; have HB := Lib.hid hB; have H1 := Lib.hid (H.out.keeps hB.block); have c0 := H1.out.c0; clear hB)
      clear Hlast
      go_loopw [7, 8] (fun v i wr => ∃ (k x : Nat) (p : Option Addr) (c : Nat), Hid (x = k0 + k) ∧ x ≤ es.length ∧ k ≤ most.toNat ∧ i = .int .u64 (x : Int) ∧ v = .slice p k c ∧ Hid (EsG wr (fun b => S b ∨ w.heap.size ≤ b) 53 (.slice p k c) ((es.drop k0).take k) ∧ ∀ g, (Value.slice p k c).ownBlock = some g → w.heap.size ≤ g) ∧ Hid (Below w.heap.size w wr)) (fun _ i _ => es.length - (intOf i).toNat)
      case atStart => exact ⟨0, k0, none, 0, Lib.hid rfl, Nat.le_of_lt Hkn.out, Nat.zero_le _, rfl, rfl, Lib.hid ⟨.inl ⟨rfl, by simp⟩, fun g e => by cases e⟩, HB⟩
      case round =>
        obtain ⟨k, x, p, c3, hx, hxl, hkm, rfl, rfl, HE, HBr⟩ := hrel
        have HT := Lib.hid (H.out.frame (fun b hb => HBr.out.block b hb.2))
        have c2 := HT.out.c2
        clear c0
        by_cases hlx : x < es.length
        · by_cases hlm : (k : Int) < most
          · obtain ⟨b2, off2, n2, c2, d, hsv, hnn, hrange, hda, htl⟩ := HT.out.own.rd.elem x hlx
            cases hsv
            have Hra := Lib.hid hrange
            have Htl := Lib.hid htl
            have Hes := Lib.hid (show (es.drop k0).take (k + 1) = (es.drop k0).take k ++ [(es[x].1, es[x].2)] by
              have hx := hx.out
              subst hx
              rw [List.take_succ_eq_append_getElem (by rw [List.length_drop]; omega)]; simp)
            have hlen : ((es.drop k0).take k).length ≤ 1000000 - 1 := by have := hx.out; rw [List.length_take, List.length_drop]; omega
            have Hlen := Lib.hid hlen
            have Hlen2 := Lib.hid (show ((es.drop k0).take k).length = k by have := hx.out; rw [List.length_take, List.length_drop]; omega)
            clear hlen
            generalize es[x].1 = t at *
            generalize es[x].2 = le at *
            obtain ⟨pd, cd, rfl⟩ : ∃ p c, d = .slice p le.length c := by obtain ⟨p, c, h1, _⟩ := hda.rd; exact ⟨p, c, h1⟩
            have HD5 := Lib.hid (hda.keeps ((Keeps.refl wr).alloc (.cells #[.int .u64 (t : Int), .slice pd le.length cd] 53)))
            have HN5 := Lib.hid (EntAt.new wr t (.slice pd le.length cd))
            have HE5 := Lib.hid (HE.out.1.keeps ((Keeps.refl wr).alloc (.cells #[.int .u64 (t : Int), .slice pd le.length cd] 53)))
            have HB5 := Lib.hid (HBr.out.alloc HBr.out.size (.cells #[.int .u64 (t : Int), .slice pd le.length cd] 53))
            have g1 : IntKind.u64.wrap ((x : Int) + 1) = ((x + 1 : Nat) : Int) := by rw [IntWalk.u64_in _ (by omega)]; omega
            have d1 : decide ((k : Int) < most) = true := by simp [hlm]
            have Hown := Lib.hid HE.out.2
            clear hrange hda htl hnn
            have q1 : DatA (wr.alloc (.cells #[.int .u64 (t : Int), .slice pd le.length cd] 53)) (fun b => (S b ∨ w.heap.size ≤ b) ∧ (Value.slice p k c3).ownBlock ≠ some b) (.slice pd le.length cd) le := HD5.out.mono fun b _ hb => (⟨.inl hb.1.1, fun e => by have := Hown.out b e; have := hb.1.2; omega⟩ : (S b ∨ w.heap.size ≤ b) ∧ (Value.slice p k c3).ownBlock ≠ some b)
            have HQ1 := Lib.hid q1
            clear q1
            go_wp2_with (first
              | (refine wpList_load_mid rfl 53 (.tmp 50) rfl _ _ rfl [.int .u64 (t : Int), .slice pd le.length cd] _ Hra.out Try.underlying53 rfl (show _ = some 2 by kernel_rfl) ?_)
              | (at_builtin; go_loud (refine wpList_append_esg2 rfl (.tmp 44) (.tmp 52) rfl (S' := fun b => S b ∨ w.heap.size ≤ b) rfl HE5.out rfl (fs := [(t, le)]) (EsC.cons Htl.out HQ1.out .nil) (.inr ⟨_, rfl, ent_cells HN5.out⟩) (by have h9 := Hlen.out; show _ + 1 ≤ 1000000; omega) (fun b hb => hb) (.inr (by have := HB5.out.size; exact this)) ?_; intro p6 n6 c6 w6 ho hg hown hn6; have hn7 : n6 = k + 1 := (hn6.trans (by rw [Hlen2.out]; rfl)); subst hn7; have HE6 := Lib.hid ho; have HO6 := Lib.hid (fun g (e : (Value.slice p6 (k + 1) c6).ownBlock = some g) => (hown.elim (fun h => Hown.out g (h.symm.trans e)) (fun h => by have := HB5.out.size; have h2 := h.symm.trans e; cases h2; exact this) : w.heap.size ≤ g)); have HB6 := Lib.hid (HB5.out.grown hg HB5.out.size (fun g e => Hown.out g e)); clear ho hown hn6)))
            go_roundw
            case rel => exact ⟨k + 1, x + 1, p6, c6, Lib.hid (by have := hx.out; omega), by omega, by omega, rfl, rfl, Lib.hid ⟨by rw [Hes.out]; exact HE6.out, HO6.out⟩, HB6⟩
            case measure => simp [intOf]; omega
          · have d1 : decide ((k : Int) < most) = false := by simp; omega
            have hk2 : k = most.toNat := by omega
            go_wp2
            go_ret
            exact ⟨_, rfl, by rw [← hk2]; exact HE.out.1.rd, HBr.out⟩
        · have hx2 : x = es.length := by omega
          subst hx2
          go_wp2
          go_ret
          refine ⟨_, rfl, ?_, HBr.out⟩
          have h1 := HE.out.1.rd
          rw [show (es.drop k0).take k = (es.drop k0).take most.toNat by have := hx.out; rw [List.take_eq_take_iff, List.length_drop]; omega] at h1
          exact h1
end Go.Proofs.Yteellfgiejnigaa
