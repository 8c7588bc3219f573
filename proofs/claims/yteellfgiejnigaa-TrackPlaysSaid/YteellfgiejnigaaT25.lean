/- The document's track as it lies; walks of its Last, TermAt and Add. -/
import Derived.Test.YteellfgiejnigaaT24
namespace Go.Proofs.Yteellfgiejnigaa
open Go.ChangeShapes Go.WideShapes Go.ChangeAt Go.RowKit
set_option linter.unusedVariables false

structure RkAt (w : World) (S : Foot) (g B T : Nat) (v : Value) (es : List Ent) : Prop where
  cells : w.heap[g]? = some (.cells #[.int .u64 (B : Int), .int .u64 (T : Int), v] 59)
  foot : S g
  own : EsG w (fun b => S b ∧ b ≠ g) 53 v es
  bB : B < 2 ^ 64
  bT : T < 2 ^ 64
  fits : B + es.length < 2 ^ 64
theorem RkAt.lt {w : World} {S : Foot} {g B T : Nat} {v : Value} {es : List Ent} (h : RkAt w S g B T v es) : g < w.heap.size := (Array.getElem?_eq_some_iff.1 h.cells).1
theorem RkAt.frame {w w' : World} {S : Foot} {g B T : Nat} {v : Value} {es : List Ent} (h : RkAt w S g B T v es) (hs : SameOn S w w') : RkAt w' S g B T v es :=
  ⟨by rw [hs g h.foot]; exact h.cells, h.foot, h.own.frame fun b hb => hs b hb.1, h.bB, h.bT, h.fits⟩
theorem RkAt.keeps {w w' : World} {S : Foot} {g B T : Nat} {v : Value} {es : List Ent} (h : RkAt w S g B T v es) (hk : Keeps w w') : RkAt w' S g B T v es :=
  ⟨by rw [hk g h.lt]; exact h.cells, h.foot, h.own.keeps hk, h.bB, h.bT, h.fits⟩
theorem RkAt.mono {w : World} {S S' : Foot} {g B T : Nat} {v : Value} {es : List Ent} (h : RkAt w S g B T v es) (hs : ∀ b, b < w.heap.size → S b → S' b) : RkAt w S' g B T v es :=
  ⟨h.cells, hs g h.lt h.foot, h.own.mono fun b hlt hb => ⟨hs b hlt hb.1, hb.2⟩, h.bB, h.bT, h.fits⟩
theorem RkAt.c0 {w : World} {S : Foot} {g B T : Nat} {v : Value} {es : List Ent} (h : RkAt w S g B T v es) : w.cell? ⟨g, 0, none⟩ = some (.int .u64 (B : Int)) := by rw [cell_of_row _ _ _ _ _ _ h.cells]; rfl
theorem RkAt.c1 {w : World} {S : Foot} {g B T : Nat} {v : Value} {es : List Ent} (h : RkAt w S g B T v es) : w.cell? ⟨g, 1, none⟩ = some (.int .u64 (T : Int)) := by rw [cell_of_row _ _ _ _ _ _ h.cells]; rfl
theorem RkAt.c2 {w : World} {S : Foot} {g B T : Nat} {v : Value} {es : List Ent} (h : RkAt w S g B T v es) : w.cell? ⟨g, 2, none⟩ = some v := by rw [cell_of_row _ _ _ _ _ _ h.cells]; rfl
theorem RkAt.frozen {w : World} {S : Foot} {g B T : Nat} {v : Value} {es : List Ent} (h : RkAt w S g B T v es) (k : Nat) : w.frozen? ⟨g, k, none⟩ = false := by
  have h := h.cells
  simp [World.frozen?, h]

theorem RkAt.put {W : World} {S S' : Foot} {g B T : Nat} {v y : Value} {es fs : List Ent} (h : RkAt W S g B T v es) (hg : S' g) (ho : EsG W (fun b => S' b ∧ b ≠ g) 53 y fs) (hf : B + fs.length < 2 ^ 64) : RkAt (W.setCell ⟨g, 2, none⟩ y) S' g B T y fs := by
  refine ⟨?_, hg, ho.frame fun b hb => Below.heap_setCell _ _ _ _ (by simpa using hb.2), h.bB, h.bT, hf⟩
  have hc := h.cells
  simp only [World.setCell, Array.getElem?_modify, hc, if_true, Option.map_some]
  rfl

theorem EsR.elemF {w : World} {S : Foot} {v : Value} {es : List Ent} (h : EsR w S v es) (k : Nat) (hk : k < es.length) : ∃ b off c d, v = .slice (some ⟨b, off, none⟩) es.length c ∧ S b ∧ b < w.heap.size ∧
    w.cell? ⟨b, off + k * 2, none⟩ = some (.int .u64 ((es[k].1 : Nat) : Int)) ∧ w.cell? ⟨b, off + k * 2 + 1, none⟩ = some d ∧ DatA w S d es[k].2 ∧ es[k].1 < 2 ^ 64 := by
  obtain ⟨p, c, xs, rfl, h1, h2, h3, h4, h5⟩ := h
  obtain ⟨b, off, rfl, hb, hlt, hc⟩ := h5 (by rintro rfl; simp at hk)
  obtain ⟨d, q1, q2, q3, q4⟩ := h4.at k hk
  exact ⟨b, off, c, d, rfl, hb, hlt, hc _ _ q1, by rw [Nat.add_assoc]; exact hc _ _ q2, q3, q4⟩

set_option maxRecDepth 100000 in
theorem rlast_w (S : Foot) (g B T : Nat) (v : Value) (es : List Ent) (w : World) (h : RkAt w S g B T v es) :
    Calls Try.prog 80 #[.pointer (some ⟨g, 0, none⟩)] w fun r w' => r = .returned (.int .u64 ((B + es.length : Nat) : Int)) ∧ Below w.heap.size w w' := by
  have c0 := h.c0
  have c2 := h.c2
  obtain ⟨p, c, rfl⟩ := h.own.form
  have hf := h.fits
  have hw1 : IntKind.u64.wrap ((es.length : Nat) : Int) = ((es.length : Nat) : Int) := IntWalk.u64_in _ (by omega)
  have hw2 : IntKind.u64.wrap ((B : Int) + ((es.length : Nat) : Int)) = ((B + es.length : Nat) : Int) := by rw [IntWalk.u64_in _ (by omega)]; omega
  generalize B + es.length = L at *
  generalize es.length = n at *
  clear h
  go_enter Try.func80, Try.ntmps80
  go_wp2
  go_quiet (fail)
  go_wp2
  go_ret
  exact ⟨rfl, ⟨rfl, rfl, rfl, Nat.le_refl _, fun _ _ => rfl⟩⟩

set_option maxRecDepth 100000 in
theorem rtermat_w (S : Foot) (g B T : Nat) (v : Value) (es : List Ent) (i : Nat) (w : World) (h : RkAt w S g B T v es) (hn : es.length ≤ 1000000) (hi : i < 2 ^ 64) :
    Calls Try.prog 38 #[.pointer (some ⟨g, 0, none⟩), .int .u64 (i : Int)] w fun r w' => r = .returned (.tuple #[.int .u64 (((termAt B T es i).1 : Nat) : Int), .bool (termAt B T es i).2]) ∧ Below w.heap.size w w' := by
  have H := Lib.hid h
  have Hlast := Lib.hid (rlast_w S g B T v es w h)
  have c0 := h.c0
  have hf := h.fits
  unfold termAt
  by_cases h1 : i < B
  · rw [if_pos (.inl h1)]
    clear h Hlast
    have e1 : decide (i < B) = true := by simp; omega
    go_enter Try.func38, Try.ntmps38
    go_wp2
    go_ret2
    exact ⟨rfl, Below.refl _ _⟩
  · by_cases h2 : B + es.length < i
    · rw [if_pos (.inr h2)]
      have e1 : decide (i < B) = false := by simp; omega
      have e2 : decide (B + es.length < i) = true := by simp; omega
      generalize B + es.length = L at *
      clear h
      go_enter Try.func38, Try.ntmps38
      go_wp2_with (go_at_call 80; refine (Hlast.out).mono ?_; rintro r w1 ⟨rfl, hB⟩; have H1 := Lib.hid (H.out.keeps hB.block); have HB := Lib.hid hB; have c0 := H1.out.c0; have c1 := H1.out.c1; have c2 := H1.out.c2; clear hB)
      go_ret2
      exact ⟨rfl, HB.out⟩
    · rw [if_neg (by omega)]
      by_cases h3 : i = B
      · rw [if_pos h3]
        subst h3
        have e1 : decide (i < i) = false := by simp
        have e2 : decide (i + es.length < i) = false := by simp
        generalize i + es.length = L at *
        clear h
        go_enter Try.func38, Try.ntmps38
        go_wp2_with (go_at_call 80; refine (Hlast.out).mono ?_; rintro r w1 ⟨rfl, hB⟩; have H1 := Lib.hid (H.out.keeps hB.block); have HB := Lib.hid hB; have c0 := H1.out.c0; have c1 := H1.out.c1; have c2 := H1.out.c2; clear hB)
        go_ret2
        exact ⟨rfl, HB.out⟩
      · rw [if_neg h3]
        obtain ⟨k, hk⟩ : ∃ k, i = B + 1 + k := ⟨i - B - 1, by omega⟩
        have hkl : k < es.length := by omega
        obtain ⟨b, off, c, rfl, hc⟩ := h.own.rd.term k hkl
        have ht : (es.getD (i - B - 1) (0, [])).1 = es[k].1 := by rw [show i - B - 1 = k by omega, List.getD, List.getElem?_eq_getElem hkl]; rfl
        rw [ht]
        have Hc := Lib.hid hc
        generalize es[k].1 = t at *
        have e1 : decide (i < B) = false := by simp; omega
        have e2 : decide (B + es.length < i) = false := by simp; omega
        have e3 : decide (i = B) = false := by simp; omega
        have e4 : (i == B) = false := by simp; omega
        have e5 : IntKind.u64.wrap ((i : Int) - (B : Int)) = (k : Int) + 1 := by rw [IntWalk.u64_in _ (by omega)]; omega
        have e6 : IntKind.u64.wrap ((k : Int) + 1 - 1) = (k : Int) := by rw [IntWalk.u64_in _ (by omega)]; omega
        have e7 : (k : Int) + 1 - 1 = (k : Int) := by omega
        have e8 : IntKind.u64.wrap (k : Int) = (k : Int) := IntWalk.u64_in _ (by omega)
        generalize B + es.length = L at *
        generalize es.length = n at *
        clear h ht hc hk h3 h2 h1
        go_enter Try.func38, Try.ntmps38
        go_wp2_with (go_at_call 80; refine (Hlast.out).mono ?_; rintro r w1 ⟨rfl, hB⟩; have H1 := Lib.hid (H.out.keeps hB.block); have HB := Lib.hid hB; have c0 := H1.out.c0; have c1 := H1.out.c1; have c2 := H1.out.c2; have hcc := hB.cell (block_lt_of_cell Hc.out); rw [Hc.out] at hcc; clear hB)
        go_quiet (fail)
        go_wp2
        go_ret2
        exact ⟨rfl, HB.out.trans ⟨rfl, rfl, rfl, Nat.le_refl _, fun _ _ => rfl⟩⟩
set_option maxRecDepth 100000 in
set_option maxHeartbeats 3200000 in
theorem radd_w (S R : Foot) (g B T : Nat) (v sv : Value) (es ss : List Ent) (w : World) (h : RkAt w S g B T v es) (hr : EsR w R sv ss) (hd : ∀ b, b < w.heap.size → R b → S b → False)
    (hn : es.length + ss.length ≤ 1000000) (hl : ∀ e ∈ ss, e.2.length ≤ 1000000) :
    Calls Try.prog 31 #[.pointer (some ⟨g, 0, none⟩), sv] w fun r w' => (∃ x, r = .returned x) ∧ ∃ v', RkAt w' (fun b => S b ∨ w.heap.size ≤ b) g B T v' (es ++ ss.take (18446744073709551615 - (B + es.length))) ∧ Touch S w w' := by
  obtain ⟨p0, c0, rfl⟩ : ∃ p c, sv = .slice p ss.length c := by obtain ⟨p, c, xs, h1, _⟩ := hr; exact ⟨p, c, h1⟩
  have H := Lib.hid h
  have Hr := Lib.hid (hr.mono (S' := fun b => R b ∧ b < w.heap.size) fun b hb hR => ⟨hR, hb⟩)
  have Hd := Lib.hid hd
  have Hl := Lib.hid hl
  have hglt := h.lt
  have hsl : ss.length ≤ 1000000 := by omega
  have Hn := Lib.hid hn
  clear h hr hd hl hn
  go_enter Try.func31, Try.ntmps31
  go_wp2
  go_loopw [4] (fun i wr => ∃ (k : Nat) (u : Value), k ≤ ss.length ∧ i = .int .i64 (k : Int) ∧ Hid (k ≤ 18446744073709551615 - (B + es.length)) ∧ Hid (RkAt wr (fun b => S b ∨ w.heap.size ≤ b) g B T u (es ++ ss.take k)) ∧ Hid (Touch S w wr)) (fun i _ => ss.length - (intOf i).toNat)
  case atStart => exact ⟨0, v, Nat.zero_le _, rfl, Lib.hid (Nat.zero_le _), Lib.hid (by rw [List.take_zero, List.append_nil]; exact H.out.mono fun b _ hb => .inl hb), Lib.hid (Touch.refl _ _)⟩
  case round =>
    obtain ⟨k, u, hk, rfl, HK, HT, HW⟩ := hrel
    have hlen : (es ++ ss.take k).length = es.length + k := by rw [List.length_append, List.length_take, Nat.min_eq_left hk]
    have Hlast := Lib.hid (rlast_w _ g B T _ _ wr HT.out)
    rw [hlen] at Hlast
    have Hlen := Lib.hid hlen
    have hfit := HT.out.fits
    rw [hlen] at hfit
    clear hlen
    by_cases hlt : k < ss.length
    · by_cases htop : B + (es.length + k) = 18446744073709551615
      · have hdec : ((((B + (es.length + k) : Nat) : Int)) == 18446744073709551615) = true := by simp; omega
        have hdec2 : decide ((((B + (es.length + k) : Nat) : Int)) = 18446744073709551615) = true := by simp; omega
        have hkk : k = 18446744073709551615 - (B + es.length) := by omega
        have Hkk := Lib.hid hkk
        clear hkk
        generalize B + (es.length + k) = L at *
        go_wp2_with (go_at_call 80; refine (Hlast.out).mono ?_; rintro r w3 ⟨rfl, hB⟩; have HB3 := Lib.hid hB; clear hB Hlast)
        go_end0
        refine ⟨⟨_, rfl⟩, u, ?_, HW.out.trans (Touch.of_below HB3.out) (S := S) (S1 := S) (fun b _ e => e)⟩
        rw [← Hkk.out]
        exact HT.out.keeps HB3.out.block
      · have hdec : ((((B + (es.length + k) : Nat) : Int)) == 18446744073709551615) = false := by simp; omega
        have hdec2 : decide ((((B + (es.length + k) : Nat) : Int)) = 18446744073709551615) = false := by simp; omega
        have Hkk := Lib.hid (show k + 1 ≤ 18446744073709551615 - (B + es.length) by omega)
        have Hfit := Lib.hid (show B + (es.length + k) + 1 < 2 ^ 64 by omega)
        have HR := Lib.hid (Hr.out.frame (fun b hb => HW.out.block b hb.2 fun e => Hd.out b hb.2 hb.1 e))
        obtain ⟨b, off, c, d, hsv, hbR, hbl, hc0, hc1, hda, htl⟩ := HR.out.elemF k hlt
        cases hsv
        have Hda := Lib.hid hda
        have Htl := Lib.hid htl
        have Hes := Lib.hid (show ss.take (k + 1) = ss.take k ++ [(ss[k].1, ss[k].2)] by rw [List.take_succ_eq_append_getElem hlt])
        have hll := Hl.out ss[k] (List.getElem_mem _)
        generalize ss[k].1 = t at *
        generalize ss[k].2 = l at *
        obtain ⟨pd, cd, rfl⟩ : ∃ p c, d = .slice p l.length c := by obtain ⟨p, c, h1, _⟩ := hda.rd; exact ⟨p, c, h1⟩
        obtain ⟨pu, nu, cu, rfl⟩ : ∃ p n c, u = .slice p n c := by obtain ⟨p, c, e⟩ := HT.out.own.form; exact ⟨p, _, c, e⟩
        have HbR := Lib.hid hbR
        have Hc0 := Lib.hid hc0
        have Hc1 := Lib.hid hc1
        clear htop hfit hda htl hbR hc0 hc1 hbl
        generalize hL : B + (es.length + k) = L at *
        go_wp2_with (go_at_call 80; refine (Hlast.out).mono ?_; rintro r w3 ⟨rfl, hB⟩; have HB3 := Lib.hid hB; clear hB Hlast)
        have HT3 := Lib.hid (HT.out.keeps HB3.out.block)
        have hw3 : wr.heap.size ≤ w3.heap.size := HB3.out.size
        have hg3 : g < w3.heap.size := HT3.out.lt
        have hww : w.heap.size ≤ wr.heap.size := HW.out.size
        have hug : ∀ x, (Value.slice pu nu cu).ownBlock = some x → x ≠ g ∧ x < wr.heap.size := fun x e => ⟨(HT.out.own.foot x e).1.2, (HT.out.own.foot x e).2⟩
        have Hug := Lib.hid hug
        clear hug
        have hsame : ∀ (W : World), Touch (fun b => (Value.slice pu nu cu).ownBlock = some b ∨ w3.heap.size ≤ b) w3.drew W → SameOn (fun b => R b ∧ b < w.heap.size) wr W := fun W hR x hx => by
          have hx1 := hx.1
          have hx2 := hx.2
          rw [hR.block x (by show x < w3.heap.size; omega) (fun e2 => by
            rcases e2 with e2 | e2
            · rcases (HT.out.own.foot x e2).1.1 with e3 | e3
              · exact Hd.out x hx2 hx1 e3
              · omega
            · omega)]
          exact HB3.out.block x (by omega)
        have Hsame := Lib.hid hsame
        clear hsame
        have HDat := Lib.hid (fun (W : World) (hR : Touch (fun b => (Value.slice pu nu cu).ownBlock = some b ∨ w3.heap.size ≤ b) w3.drew W) => (Hda.out.frame (Hsame.out W hR)).rd)
        have HC0 := Lib.hid (fun (W : World) (hR : Touch (fun b => (Value.slice pu nu cu).ownBlock = some b ∨ w3.heap.size ≤ b) w3.drew W) => (World.cell?_of_block (w := wr) (a := ⟨b, off + k * 2, none⟩) (Hsame.out W hR b HbR.out)).trans Hc0.out)
        have HC1 := Lib.hid (fun (W : World) (hR : Touch (fun b => (Value.slice pu nu cu).ownBlock = some b ∨ w3.heap.size ≤ b) w3.drew W) => (World.cell?_of_block (w := wr) (a := ⟨b, off + k * 2 + 1, none⟩) (Hsame.out W hR b HbR.out)).trans Hc1.out)
        have Hcell := Lib.hid (fun (W : World) (hR : Touch (fun b => (Value.slice pu nu cu).ownBlock = some b ∨ w3.heap.size ≤ b) w3.drew W) => (show W.heap[g]? = some (.cells #[.int .u64 (B : Int), .int .u64 (T : Int), .slice pu nu cu] 59) from by
          rw [hR.block g hg3 (fun e => by rcases e with e | e; · exact (Hug.out g e).1 rfl
                                          · omega)]
          exact HT3.out.cells))
        apply RegT.wp_region_T rfl 38 22 rfl (by kernel_rfl) (RegR (.slice pu nu cu) (fun b => (S b ∨ w.heap.size ≤ b) ∧ b ≠ g) w3.heap.size (es ++ ss.take k)) (RegR.refl _ _ _ _) (RegR.trans _ _ _ _)
        · iterate 3
            apply RegT.T_pure rfl rfl rfl
            · intro W hR; go_simp; rfl
            simp only [List.set_cons_succ, List.set_cons_zero, Nat.reduceAdd]
          apply RegT.T_pure (v := .pointer (some ⟨g, 2, none⟩)) rfl rfl rfl
          · intro W hR; clear hR; go_simp
          simp only [List.set_cons_succ, List.set_cons_zero, Nat.reduceAdd]
          apply RegT.T_pure (v := .slice pu nu cu) rfl rfl rfl
          · intro W hR
            have hc := row2 (Hcell.out W hR.1)
            clear hR
            go_simp
          simp only [List.set_cons_succ, List.set_cons_zero, Nat.reduceAdd]
          iterate 2
            apply RegT.T_pure rfl rfl rfl
            · intro W hR; go_simp; rfl
            simp only [List.set_cons_succ, List.set_cons_zero, Nat.reduceAdd]
          iterate 2
            apply RegT.T_pure (v := .pointer (some ⟨b, off + k * 2, none⟩)) rfl rfl rfl
            · intro W hR; clear hR; go_simp
            simp only [List.set_cons_succ, List.set_cons_zero, Nat.reduceAdd]
          apply RegT.T_pure (v := .int .u64 (t : Int)) rfl rfl rfl
          · intro W hR
            have hc := HC0.out W hR.1
            clear hR
            go_simp
          simp only [List.set_cons_succ, List.set_cons_zero, Nat.reduceAdd]
          apply RegT.T_predC rfl rfl rfl 16 (Fresh w3.heap.size) (RegR.grow _ _ _ _) (fun y x z hR h => h.keeps hR.block)
          · intro W hR hf
            have hsz : w3.heap.size ≤ W.heap.size := hR.1.size
            clear hR hf
            go_simp
            exact RegT.OpOK_value ⟨⟨_, rfl, (OB.new W 5).lower hsz⟩, (Below.refl _ _).alloc (Nat.le_refl _) _⟩
          intro v6
          simp only [List.set_cons_succ, List.set_cons_zero, Nat.reduceAdd]
          iterate 2
            apply RegT.T_pure rfl rfl rfl
            · intro W hR; go_simp; rfl
            simp only [List.set_cons_succ, List.set_cons_zero, Nat.reduceAdd]
          apply RegT.T_pure (v := .pointer (some ⟨b, off + k * 2, none⟩)) rfl rfl rfl
          · intro W hR; clear hR; go_simp
          simp only [List.set_cons_succ, List.set_cons_zero, Nat.reduceAdd]
          apply RegT.T_pure (v := .pointer (some ⟨b, off + k * 2 + 1, none⟩)) rfl rfl rfl
          · intro W hR; clear hR; go_simp
          simp only [List.set_cons_succ, List.set_cons_zero, Nat.reduceAdd]
          apply RegT.T_pure (v := .slice pd l.length cd) rfl rfl rfl
          · intro W hR
            have hc := HC1.out W hR.1
            clear hR
            go_simp
          simp only [List.set_cons_succ, List.set_cons_zero, Nat.reduceAdd]
          apply RegT.T_predC rfl rfl rfl 17 (DatOf l w3.heap.size) (RegR.grow _ _ _ _) (fun y x z hR h => h.keeps hR.block)
          · intro W hR hf
            have h6 : Fresh w3.heap.size v6 W := hf _ (.head _) (by kernel_rfl) (.inr rfl)
            obtain ⟨v', w', hr, hd, hg⟩ := fresh_append (ty := 29) h6 (HDat.out W hR.1) (by omega) hR.1.size
            exact append_ok (.tmp 26) (.tmp 31) rfl rfl rfl hr ⟨hd, hg⟩
          intro v12
          simp only [List.set_cons_succ, List.set_cons_zero, Nat.reduceAdd]
          apply RegT.T_predC rfl rfl rfl 18 (CopyOf t l w3.heap.size) (RegR.grow _ _ _ _) (fun y x z hR h => h.keeps hR.block)
          · intro W hR hf
            obtain ⟨p, c, rfl, hd⟩ : DatOf l w3.heap.size v12 W := hf _ (.head _) (by kernel_rfl) (.inr rfl)
            clear hR hf
            go_simp
            exact RegT.OpOK_value ⟨⟨p, c, rfl, hd⟩, Below.refl _ _⟩
          intro v13
          simp only [List.set_cons_succ, List.set_cons_zero, Nat.reduceAdd]
          apply RegT.T_predC rfl rfl rfl 19 (RowOf t l w3.heap.size) (RegR.grow _ _ _ _) (fun y x z hR h => h.keeps hR.block)
          · intro W hR hf
            obtain ⟨p, c, rfl, hd⟩ : CopyOf t l w3.heap.size v13 W := hf _ (.head _) (by kernel_rfl) (.inr rfl)
            clear hR hf
            go_simp
            exact RegT.OpOK_value ⟨⟨_, p, c, rfl, EntAt.new _ _ _, hd.keeps ((Keeps.refl W).alloc _)⟩, (Below.refl _ _).alloc (Nat.le_refl _) _⟩
          intro v14
          simp only [List.set_cons_succ, List.set_cons_zero, Nat.reduceAdd]
          apply RegT.T_write rfl rfl rfl none (fun y W => EsG W (fun b => (S b ∨ w.heap.size ≤ b) ∧ b ≠ g) 53 y (es ++ ss.take (k + 1))) (fun y x z hR h => h.keeps hR.block)
          · intro W hR hf
            obtain ⟨N, p, c, rfl, he, hd⟩ := (show RowOf t l w3.heap.size v14 W from hf _ (.head _) (by kernel_rfl) (.inr rfl))
            have hsz : w3.heap.size ≤ W.heap.size := hR.1.size
            obtain ⟨v', w', hr, ho', hg, _, hold⟩ := run_append_esg (P := Try.prog) (ty := 28) (c := 1) (S' := fun b => (S b ∨ w.heap.size ≤ b) ∧ b ≠ g) helE (hR.2 (HT3.out.own.keeps (Keeps.refl w3).drew)) (EsC.cons Htl.out (hd.mono fun b _ hb => (⟨⟨.inr (Nat.le_trans hww (Nat.le_trans hw3 hb)), fun e => by have hb2 : w3.heap.size ≤ b := hb; omega⟩, fun e => by have hb2 : w3.heap.size ≤ b := hb; have := (Hug.out b e).2; omega⟩ : ((S b ∨ w.heap.size ≤ b) ∧ b ≠ g) ∧ (Value.slice pu nu cu).ownBlock ≠ some b)) .nil) (.inr ⟨⟨N, 0, none⟩, rfl, ent_cells he⟩)
              (by rw [Hlen.out]; have := Hn.out; unfold maxLen; simp; omega) (by rw [Hlen.out]; have := Hn.out; simp; omega) (fun b hb => hb) ⟨.inr (by omega), by omega⟩
            refine append_ok (.tmp 20) (.tmp 34) rfl rfl rfl hr ⟨?_, ⟨Touch.of_grownBy hg fun b e => .inl e, fun _ => hold⟩⟩
            rw [Hes.out, ← List.append_assoc]; exact ho'
          intro v19
          simp only [List.set_cons_succ, List.set_cons_zero, Nat.reduceAdd]
          iterate 1
            apply RegT.T_pure rfl rfl rfl
            · intro W hR; go_simp; rfl
            simp only [List.set_cons_succ, List.set_cons_zero, Nat.reduceAdd]
          apply RegT.T_pure (v := .pointer (some ⟨g, 2, none⟩)) rfl rfl rfl
          · intro W hR; clear hR; go_simp
          simp only [List.set_cons_succ, List.set_cons_zero, Nat.reduceAdd]
          refine RegT.T_tail (fun W hR hf => ?_)
          have hy : EsG W (fun b => (S b ∨ w.heap.size ≤ b) ∧ b ≠ g) 53 v19 (es ++ ss.take (k + 1)) := hf _ (.head _) (.inl rfl)
          obtain ⟨p8, n8, c8, rfl⟩ : ∃ p n c, v19 = .slice p n c := by obtain ⟨p, c, e⟩ := hy.form; exact ⟨p, _, c, e⟩
          have Hy := Lib.hid hy
          have hcl := Hcell.out W hR.1
          have HTW := Lib.hid (show RkAt W (fun b => S b ∨ w.heap.size ≤ b) g B T (.slice pu nu cu) (es ++ ss.take k) from ⟨hcl, HT3.out.foot, hR.2 (HT3.out.own.keeps (Keeps.refl w3).drew), HT3.out.bB, HT3.out.bT, HT3.out.fits⟩)
          have hc2 := HTW.out.c2
          have hf2 := HTW.out.frozen 2
          have HTo := Lib.hid (show Touch S w W from by
            refine (HW.out.trans (Touch.of_below HB3.out) (S := S) (S1 := S) (fun b _ e => e)).trans (S1 := fun b => (Value.slice pu nu cu).ownBlock = some b ∨ w3.heap.size ≤ b) (w1 := w3) ⟨hR.1.os, hR.1.tape, hR.1.output, hR.1.size, hR.1.block⟩ fun b hb e => ?_
            rcases e with e | e
            · rcases (HT.out.own.foot b e).1.1 with e3 | e3
              · exact e3
              · omega
            · have := HW.out.size; omega)
          clear hR hf hy hcl
          simp only [List.drop_succ_cons, List.drop_zero]
          go_wp2
          go_roundw
          case rel =>
            refine ⟨k + 1, _, by omega, by go_num, Lib.hid Hkk.out, Lib.hid (HTW.out.put HTW.out.foot Hy.out ?_), Lib.hid (HTo.out.trans (Touch.of_grownBy (S := fun b => b = g) (Lib.grownBy_setCell W g 2 _) (fun b e => by cases e; rfl)) fun b _ e => by subst e; exact H.out.foot)⟩
            have h1 := Hfit.out
            rw [List.length_append, List.length_take, Nat.min_eq_left (by omega : k + 1 ≤ ss.length)]
            omega
          case measure => simp [intOf]; omega
        · rfl
        · kernel_rfl
    · have hk2 : k = ss.length := by omega
      subst hk2
      generalize B + (es.length + ss.length) = L at *
      go_wp2
      go_end0
      refine ⟨⟨_, rfl⟩, u, ?_, HW.out⟩
      have h1 := HT.out
      rw [List.take_length] at h1
      rw [List.take_of_length_le HK.out]
      exact h1
end Go.Proofs.Yteellfgiejnigaa
