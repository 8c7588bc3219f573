/- Walks of New, Tip and TermAt. -/
import Derived.Test.YteellfgiejnigaaT3
namespace Go.Proofs.Yteellfgiejnigaa
open Go.ChangeShapes Go.WideShapes Go.ChangeAt Go.RowKit
set_option linter.unusedVariables false

set_option maxRecDepth 100000 in
theorem new_w (R : Foot) (B T : Nat) (sv : Value) (ss : List Ent) (w : World) (hB : B < 2 ^ 64) (hT : T < 2 ^ 64) (hr : EsR w R sv ss) (hn : ss.length ≤ 1000000) (hl : ∀ e ∈ ss, e.2.length ≤ 1000000) :
    Calls Try.prog 22 #[.int .u64 (B : Int), .int .u64 (T : Int), sv] w fun r w' => r = .returned (.pointer (some ⟨w.heap.size, 0, none⟩)) ∧ (∃ v, TkAt w' (fun b => w.heap.size ≤ b) w.heap.size B T v (ss.take (18446744073709551615 - B))) ∧ Below w.heap.size w w' := by
  have hT0 : TkAt (w.alloc (.cells #[.int .u64 (B : Int), .int .u64 (T : Int), .slice none 0 0] 67)) (fun b => b = w.heap.size) w.heap.size B T (.slice none 0 0) [] :=
    ⟨heap_alloc_new w _, rfl, .inl ⟨rfl, rfl⟩, hB, hT, by simpa using hB⟩
  have Hadd := Lib.hid (add_w (fun b => b = w.heap.size) (fun b => R b ∧ b < w.heap.size) w.heap.size B T (.slice none 0 0) sv [] ss _ hT0
    ((hr.mono (S' := fun b => R b ∧ b < w.heap.size) fun b hb h => ⟨h, hb⟩).keeps ((Keeps.refl w).alloc _)) (fun b _ h e => by have := h.2; omega) (by simpa using hn) hl)
  have HB := Lib.hid ((Below.refl w.heap.size w).alloc (Nat.le_refl _) (.cells #[.int .u64 (B : Int), .int .u64 (T : Int), .slice none 0 0] 67))
  have hsz : (w.alloc (.cells #[.int .u64 (B : Int), .int .u64 (T : Int), .slice none 0 0] 67)).heap.size = w.heap.size + 1 := heap_alloc_size _ _
  have Hsz := Lib.hid hsz
  clear hT0 hr hn hl hsz
  go_enter Try.func22, Try.ntmps22
  go_wp2_with (
    go_at_call 27
    refine (Hadd.out).mono ?_
    rintro r w1 ⟨⟨x, rfl⟩, h⟩
    have H1 := Lib.hid h
    clear h)
  go_ret
  obtain ⟨v, h1, h2⟩ := H1.out
  refine ⟨rfl, ⟨v, ?_⟩, ?_⟩
  · have h3 := h1.mono (S' := fun b => w.heap.size ≤ b) fun b _ hb => by
      rcases hb with hb | hb
      · omega
      · rw [Hsz.out] at hb; omega
    simpa using h3
  · have h3 := h2.below (B := w.heap.size) (by rw [Hsz.out]; omega) (fun b hb => by omega)
    exact HB.out.trans h3
/-- The term at the tip. -/
def tipT (T : Nat) (es : List Ent) : Nat := match es.getLast? with | none => T | some e => e.1
theorem EsR.term {w : World} {S : Foot} {v : Value} {es : List Ent} (h : EsR w S v es) (k : Nat) (hk : k < es.length) : ∃ b off c, v = .slice (some ⟨b, off, none⟩) es.length c ∧ w.cell? ⟨b, off + k * 2, none⟩ = some (.int .u64 ((es[k].1 : Nat) : Int)) := by
  obtain ⟨b, off, n, c, d, h1, h2, h3, _, _⟩ := h.elem k hk
  subst h2
  exact ⟨b, off, c, h1, by simpa using h3 0 _ rfl⟩

set_option maxRecDepth 100000 in
theorem tip_w (S : Foot) (g B T : Nat) (v : Value) (es : List Ent) (w : World) (h : TkAt w S g B T v es) (hn : es.length ≤ 1000000) :
    Calls Try.prog 23 #[.pointer (some ⟨g, 0, none⟩)] w fun r w' => r = .returned (.tuple #[.int .u64 ((B + es.length : Nat) : Int), .int .u64 ((tipT T es : Nat) : Int)]) ∧ Below w.heap.size w w' := by
  have H := Lib.hid h
  have Hlast := Lib.hid (fun W h => last_w S g B T v es W h)
  have c0 := h.c0
  have c1 := h.c1
  have c2 := h.c2
  rcases Nat.eq_zero_or_pos es.length with h0 | h0
  · have he : es = [] := List.eq_nil_of_length_eq_zero h0
    subst he
    obtain ⟨p, c, rfl⟩ := h.own.form
    clear h Hlast
    go_enter Try.func23, Try.ntmps23
    go_wp2
    go_quiet (fail)
    go_wp2
    go_ret2
    exact ⟨rfl, ⟨rfl, rfl, rfl, Nat.le_refl _, fun _ _ => rfl⟩⟩
  · obtain ⟨b, off, c, rfl, hc⟩ := h.own.rd.term (es.length - 1) (by omega)
    have ht : tipT T es = (es[es.length - 1]'(by omega)).1 := by unfold tipT; rw [List.getLast?_eq_getElem?, List.getElem?_eq_getElem (by omega)]
    rw [← ht] at hc
    generalize tipT T es = t at *
    clear h ht
    obtain ⟨m, hm⟩ : ∃ m, es.length = m + 1 := ⟨es.length - 1, by omega⟩
    rw [show es.length - 1 = m by omega] at hc
    have HW := Lib.hid (fun (W : World) (hk : Keeps w W) => And.intro (hk.cell c2) (hk.cell hc))
    have hml : m + 1 ≤ 1000000 := by omega
    have hnb : ¬ ((m : Int) + 1 ≤ (m : Int)) := by omega
    have hwm : IntKind.i64.wrap (m : Int) = (m : Int) := IntWalk.i64_in _ (by omega)
    have hL : ∃ L, B + es.length = L := ⟨_, rfl⟩
    obtain ⟨L, hL⟩ := hL
    rw [hL] at Hlast ⊢
    generalize es.length = n at *
    subst hm
    clear h0 hL hn c0 c1
    go_enter Try.func23, Try.ntmps23
    go_wp2
    apply RegT.wp_region_T rfl 33 13 rfl (by kernel_rfl) RegT.Grow RegT.Grow.refl RegT.Grow.trans
    · iterate 1
        apply RegT.T_pure rfl rfl rfl
        · intro W hR; go_simp; rfl
        simp only [List.set_cons_succ, List.set_cons_zero, Nat.reduceAdd]
      apply RegT.T_const rfl rfl rfl (.int .u64 (L : Int)) (fun _ _ h => h)
      · intro W hR hf
        have Hc := Lib.hid (Hlast.out W (H.out.keeps ((Keeps.refl w).drew.trans hR.block)))
        clear hR hf
        go_simp
        exact RegT.OpOK_enter Hc.out (fun e w' h => ⟨_, h.1, rfl, h.2⟩)
      simp only [List.set_cons_succ, List.set_cons_zero, Nat.reduceAdd]
      iterate 1
        apply RegT.T_pure rfl rfl rfl
        · intro W hR; go_simp; rfl
        simp only [List.set_cons_succ, List.set_cons_zero, Nat.reduceAdd]
      apply RegT.T_pure (v := .pointer (some ⟨g, 0, none⟩)) rfl rfl rfl
      · intro W hR; clear hR; go_simp
      simp only [List.set_cons_succ, List.set_cons_zero, Nat.reduceAdd]
      apply RegT.T_pure (v := .pointer (some ⟨g, 2, none⟩)) rfl rfl rfl
      · intro W hR; clear hR; go_simp
      simp only [List.set_cons_succ, List.set_cons_zero, Nat.reduceAdd]
      apply RegT.T_pure (v := .slice (some ⟨b, off, none⟩) (m + 1) c) rfl rfl rfl
      · intro W hR; have k2 := (HW.out W ((Keeps.refl w).drew.trans hR.block)).1; clear hR; go_simp
      simp only [List.set_cons_succ, List.set_cons_zero, Nat.reduceAdd]
      iterate 1
        apply RegT.T_pure rfl rfl rfl
        · intro W hR; go_simp; rfl
        simp only [List.set_cons_succ, List.set_cons_zero, Nat.reduceAdd]
      apply RegT.T_pure (v := .int .i64 (m : Int)) rfl rfl rfl
      · intro W hR; clear hR; go_simp
      simp only [List.set_cons_succ, List.set_cons_zero, Nat.reduceAdd]
      apply RegT.T_pure (v := .pointer (some ⟨b, off + m * 2, none⟩)) rfl rfl rfl
      · intro W hR; clear hR; go_simp
      simp only [List.set_cons_succ, List.set_cons_zero, Nat.reduceAdd]
      apply RegT.T_pure (v := .pointer (some ⟨b, off + m * 2, none⟩)) rfl rfl rfl
      · intro W hR; clear hR; go_simp
      simp only [List.set_cons_succ, List.set_cons_zero, Nat.reduceAdd]
      apply RegT.T_pure (v := .int .u64 (t : Int)) rfl rfl rfl
      · intro W hR; have k2 := (HW.out W ((Keeps.refl w).drew.trans hR.block)).2; clear hR; go_simp
      simp only [List.set_cons_succ, List.set_cons_zero, Nat.reduceAdd]
      iterate 2
        apply RegT.T_pure rfl rfl rfl
        · intro W hR; go_simp; rfl
        simp only [List.set_cons_succ, List.set_cons_zero, Nat.reduceAdd]
      refine RegT.T_tail (fun W hR hf => ?_)
      have HR := Lib.hid hR
      clear hR hf
      simp only [List.drop_succ_cons, List.drop_zero]
      go_wp2
      go_ret2
      exact ⟨rfl, (Below.refl w.heap.size w).drew.trans HR.out⟩
    · rfl
    · kernel_rfl
/-- The term at an index, if there is one. -/
def termAt (B T : Nat) (es : List Ent) (i : Nat) : Nat × Bool := if i < B ∨ B + es.length < i then (0, false) else if i = B then (T, true) else ((es.getD (i - B - 1) (0, [])).1, true)

set_option maxRecDepth 100000 in
theorem termat_w (S : Foot) (g B T : Nat) (v : Value) (es : List Ent) (i : Nat) (w : World) (h : TkAt w S g B T v es) (hn : es.length ≤ 1000000) (hi : i < 2 ^ 64) :
    Calls Try.prog 28 #[.pointer (some ⟨g, 0, none⟩), .int .u64 (i : Int)] w fun r w' => r = .returned (.tuple #[.int .u64 (((termAt B T es i).1 : Nat) : Int), .bool (termAt B T es i).2]) ∧ Below w.heap.size w w' := by
  have H := Lib.hid h
  have Hlast := Lib.hid (last_w S g B T v es w h)
  have c0 := h.c0
  have hf := h.fits
  unfold termAt
  by_cases h1 : i < B
  · rw [if_pos (.inl h1)]
    clear h Hlast
    have e1 : decide (i < B) = true := by simp; omega
    go_enter Try.func28, Try.ntmps28
    go_wp2
    go_ret2
    exact ⟨rfl, Below.refl _ _⟩
  · by_cases h2 : B + es.length < i
    · rw [if_pos (.inr h2)]
      have e1 : decide (i < B) = false := by simp; omega
      have e2 : decide (B + es.length < i) = true := by simp; omega
      generalize B + es.length = L at *
      clear h
      go_enter Try.func28, Try.ntmps28
      go_wp2_with (go_at_call 76; refine (Hlast.out).mono ?_; rintro r w1 ⟨rfl, hB⟩; have H1 := Lib.hid (H.out.keeps hB.block); have HB := Lib.hid hB; have c0 := H1.out.c0; have c1 := H1.out.c1; have c2 := H1.out.c2; clear hB)
      go_ret2
      exact ⟨rfl, HB.out⟩
    · rw [if_neg (by omega)]
      by_cases h3 : i = B
      · rw [if_pos h3]
        subst h3
        have e1 : decide (i < i) = false := by simp
        have e2 : decide (i + es.length < i) = false := by simp
        generalize i + es.length = L at *
        clear h
        go_enter Try.func28, Try.ntmps28
        go_wp2_with (go_at_call 76; refine (Hlast.out).mono ?_; rintro r w1 ⟨rfl, hB⟩; have H1 := Lib.hid (H.out.keeps hB.block); have HB := Lib.hid hB; have c0 := H1.out.c0; have c1 := H1.out.c1; have c2 := H1.out.c2; clear hB)
        go_ret2
        exact ⟨rfl, HB.out⟩
      · rw [if_neg h3]
        obtain ⟨k, hk⟩ : ∃ k, i = B + 1 + k := ⟨i - B - 1, by omega⟩
        have hkl : k < es.length := by omega
        obtain ⟨b, off, c, rfl, hc⟩ := h.own.rd.term k hkl
        have ht : (es.getD (i - B - 1) (0, [])).1 = es[k].1 := by rw [show i - B - 1 = k by omega, List.getD, List.getElem?_eq_getElem hkl]; rfl
        rw [ht]
        have Hc := Lib.hid hc
        generalize es[k].1 = t at *
        have e1 : decide (i < B) = false := by simp; omega
        have e2 : decide (B + es.length < i) = false := by simp; omega
        have e3 : decide (i = B) = false := by simp; omega
        have e4 : (i == B) = false := by simp; omega
        have e5 : IntKind.u64.wrap ((i : Int) - (B : Int)) = (k : Int) + 1 := by rw [IntWalk.u64_in _ (by omega)]; omega
        have e6 : IntKind.u64.wrap ((k : Int) + 1 - 1) = (k : Int) := by rw [IntWalk.u64_in _ (by omega)]; omega
        have e7 : (k : Int) + 1 - 1 = (k : Int) := by omega
        have e8 : IntKind.u64.wrap (k : Int) = (k : Int) := IntWalk.u64_in _ (by omega)
        generalize B + es.length = L at *
        generalize es.length = n at *
        clear h ht hc hk h3 h2 h1
        go_enter Try.func28, Try.ntmps28
        go_wp2_with (go_at_call 76; refine (Hlast.out).mono ?_; rintro r w1 ⟨rfl, hB⟩; have H1 := Lib.hid (H.out.keeps hB.block); have HB := Lib.hid hB; have c0 := H1.out.c0; have c1 := H1.out.c1; have c2 := H1.out.c2; have hcc := hB.cell (block_lt_of_cell Hc.out); rw [Hc.out] at hcc; clear hB)
        go_quiet (fail)
        go_wp2
        go_ret2
        exact ⟨rfl, HB.out.trans ⟨rfl, rfl, rfl, Nat.le_refl _, fun _ _ => rfl⟩⟩
end Go.Proofs.Yteellfgiejnigaa
