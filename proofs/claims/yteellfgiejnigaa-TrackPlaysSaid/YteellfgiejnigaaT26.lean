/- Cutting and packing: walks of the document's Cut and Pack, and of Pack, Copy and Base. -/
import Derived.Test.YteellfgiejnigaaT25
import Derived.Test.YteellfgiejnigaaT20
import Derived.Test.YteellfgiejnigaaRows3
namespace Go.Proofs.Yteellfgiejnigaa
open Go.ChangeShapes Go.WideShapes Go.ChangeAt Go.RowKit
set_option linter.unusedVariables false

theorem EsR.src {w : World} {S : Foot} {v : Value} {es : List Ent} (h : EsR w S v es) : ∃ xs, EsC w S xs es ∧ SrcR w 2 v es.length xs := by
  obtain ⟨p, c, xs, rfl, h1, h2, h3, h4, h5⟩ := h
  refine ⟨xs, h4, p, c, rfl, h4.len, h4.one, ?_⟩
  cases p with
  | none => have := h3 rfl; exact .inl ⟨rfl, by omega, this⟩
  | some a =>
    refine .inr ⟨a, rfl, fun j u hu => ?_⟩
    by_cases he : es = []
    · subst he
      have : xs = [] := List.eq_nil_of_length_eq_zero (by rw [h4.len]; rfl)
      subst this
      cases hu
    · obtain ⟨b, off, e, _, _, hc⟩ := h5 he
      cases e
      rw [plain_add]
      exact hc j u hu
theorem EsR.lo {w : World} {S : Foot} {p : Option Addr} {n c : Nat} {es : List Ent} (h : EsR w S (.slice p n c) es) {l : Nat} (hl : l ≤ es.length) : EsR w S (.slice (if c = l then p else p.map (·.add (l * 2))) (n - l) (c - l)) (es.drop l) := by
  obtain ⟨p', c', xs, e, h1, h2, h3, h4, h5⟩ := h
  cases e
  refine ⟨_, c - l, xs.drop (l * 2), by rw [List.length_drop], by rw [List.length_drop]; omega, by omega, fun e => ?_, h4.drop l, fun hne => ?_⟩
  · by_cases hcl : c = l
    · omega
    · rw [if_neg hcl] at e
      have : p = none := by simpa using e
      have := h3 this
      omega
  · have hlt : l < es.length := by
      rcases Nat.lt_or_ge l es.length with h | h
      · exact h
      · exact absurd (List.drop_eq_nil_of_le h) hne
    obtain ⟨b, off, rfl, hb, hbl, hc⟩ := h5 (by rintro rfl; simp at hlt)
    rw [if_neg (by omega)]
    refine ⟨b, off + l * 2, by simp [plain_add], hb, hbl, fun j u hu => ?_⟩
    rw [List.getElem?_drop] at hu
    rw [Nat.add_assoc]
    exact hc _ _ hu
theorem slice_lo_es {w : World} {S : Foot} {p : Option Addr} {n c : Nat} {es : List Ent} (h : EsR w S (.slice p n c) es) {l : Nat} (hl : l ≤ es.length) :
    ∃ q d, (∀ W, (Instr.sliceAt 28 (.slice p n c) (some (.int .u64 (l : Int))) none none).run Try.prog W = .ok (.slice q (n - l) d) W) ∧ EsR w S (.slice q (n - l) d) (es.drop l) := by
  have hn : n = es.length := by obtain ⟨p', c', xs, e, _⟩ := h; cases e; rfl
  exact ⟨_, _, fun W => run_slice_lo_u 28 53 Try.underlying28 2 (by kernel_rfl) p n c l (by omega) W, h.lo hl⟩
/-- A new empty row of entries. -/
def FreshE (B0 : Nat) (y : Value) (W : World) : Prop := ∃ N, y = .slice (some ⟨N, 0, none⟩) 0 0 ∧ W.ownsRow B0 53 2 y 0 []
theorem FreshE.keeps {B0 : Nat} {y : Value} {W W' : World} (h : FreshE B0 y W) (hk : Keeps W W') : FreshE B0 y W' := by
  obtain ⟨N, rfl, h⟩ := h
  refine ⟨N, rfl, h.1, ?_⟩
  rcases h.2 with h2 | ⟨g, cap, cur, hv, hg, hh, r⟩
  · exact .inl h2
  · exact .inr ⟨g, cap, cur, hv, hg, by rw [hk g (Array.getElem?_eq_some_iff.1 hh).1]; exact hh, r⟩
theorem FreshE.new {W : World} {B0 : Nat} (hB : B0 ≤ W.heap.size) : FreshE B0 (.slice (some ⟨W.heap.size, 0, none⟩) 0 0) (W.alloc (.cells #[] 53)) := ⟨_, rfl, World.ownsRow_lit W #[] 0 hB (by unfold maxLen; omega) rfl⟩
theorem esg_of_own {w : World} {B0 : Nat} {S : Foot} {v : Value} {xs : List Value} {es : List Ent} (h : w.ownsRow B0 53 2 v es.length xs) (hx : EsC w (fun b => S b ∧ b < B0) xs es) : EsG w (fun b => S b ∨ B0 ≤ b) 53 v es := by
  rcases h.2 with ⟨rfl, h0⟩ | ⟨g, cap, cur, rfl, hg, hh, h1, h2, h3, h4⟩
  · exact .inl ⟨rfl, List.eq_nil_of_length_eq_zero h0⟩
  · refine .inr ⟨g, cap, cur, rfl, .inr hg, hh, h1, h2, by omega, ?_⟩
    rw [h4]
    exact hx.mono fun b _ hb => ⟨.inl hb.1, by have := hb.2; omega⟩
theorem fresh_ents {w : World} {B0 : Nat} {ty : TypeId} {S : Foot} {y x : Value} {es : List Ent} (h : FreshE B0 y w) (hx : EsR w (fun b => S b ∧ b < B0) x es) (hl : es.length ≤ 1000000) (hB : B0 ≤ w.heap.size) :
    ∃ v' w', (Builtin.append_ #[28, 28] ty #[y, x]).run Try.prog w = .ok v' w' ∧ EsG w' (fun b => S b ∨ B0 ≤ b) 53 v' es ∧ RegT.Grow w w' := by
  obtain ⟨N, rfl, ho⟩ := h
  obtain ⟨xs, hxs, hsrc⟩ := hx.src
  obtain ⟨v', w', hr, ho', hg⟩ := run_append_fresh (P := Try.prog) (ty := ty) helE (base := B0) ho hsrc (by unfold maxLen; omega) (by omega) hB
  exact ⟨_, w', hr, esg_of_own ho' (hxs.keeps hg.block), hg⟩
theorem nil_ents {w : World} {B0 : Nat} {ty : TypeId} {S : Foot} {x : Value} {es : List Ent} (hx : EsR w (fun b => S b ∧ b < B0) x es) (hl : es.length ≤ 1000000) (hB : B0 ≤ w.heap.size) :
    ∃ v' w', (Builtin.append_ #[28, 28] ty #[.slice none 0 0, x]).run Try.prog w = .ok v' w' ∧ EsG w' (fun b => S b ∨ B0 ≤ b) 53 v' es ∧ RegT.Grow w w' := by
  obtain ⟨xs, hxs, hsrc⟩ := hx.src
  obtain ⟨v', w', hr, ho', hg⟩ := run_append_src (P := Try.prog) (ty := ty) helE (World.ownsRow_nil w B0 53 2) hsrc (by unfold maxLen; omega) (by omega) hB
  have hg' : RegT.Grow w w' := below_grown hg w.heap.size (Nat.le_refl _) (fun k e => by cases e)
  rw [List.nil_append, Nat.zero_add] at ho'
  exact ⟨_, w', hr, esg_of_own ho' (hxs.keeps hg'.block), hg'⟩
theorem termAt_lt {w : World} {S : Foot} {v : Value} {B T : Nat} {es : List Ent} (h : EsR w S v es) (hT : T < 2 ^ 64) (i : Nat) : (termAt B T es i).1 < 2 ^ 64 := by
  unfold termAt
  split
  · exact Nat.two_pow_pos 64
  · split
    · exact hT
    · rename_i h1 h2
      have hk : i - B - 1 < es.length := by omega
      obtain ⟨b, off, c, d, _, _, _, _, _, _, hlt⟩ := h.elemF (i - B - 1) hk
      show (es.getD (i - B - 1) (0, [])).1 < 2 ^ 64
      rw [getD_of_lt _ _ _ hk]; exact hlt
theorem RkAt.set0 {W : World} {S : Foot} {g B T : Nat} {v : Value} {es : List Ent} (h : RkAt W S g B T v es) {i : Nat} (hi : i + es.length < 2 ^ 64) : RkAt (W.setCell ⟨g, 0, none⟩ (.int .u64 (i : Int))) S g i T v es := by
  refine ⟨?_, h.foot, h.own.frame fun b hb => Below.heap_setCell _ _ _ _ (by simpa using hb.2), by omega, h.bT, hi⟩
  have hc := h.cells
  simp only [World.setCell, Array.getElem?_modify, hc, if_true, Option.map_some]
  rfl
theorem RkAt.set1 {W : World} {S : Foot} {g B T : Nat} {v : Value} {es : List Ent} (h : RkAt W S g B T v es) {i : Nat} (hi : i < 2 ^ 64) : RkAt (W.setCell ⟨g, 1, none⟩ (.int .u64 (i : Int))) S g B i v es := by
  refine ⟨?_, h.foot, h.own.frame fun b hb => Below.heap_setCell _ _ _ _ (by simpa using hb.2), h.bB, hi, h.fits⟩
  have hc := h.cells
  simp only [World.setCell, Array.getElem?_modify, hc, if_true, Option.map_some]
  rfl
theorem TkAt.set0 {W : World} {S : Foot} {g B T : Nat} {v : Value} {es : List Ent} (h : TkAt W S g B T v es) {i : Nat} (hi : i + es.length < 2 ^ 64) : TkAt (W.setCell ⟨g, 0, none⟩ (.int .u64 (i : Int))) S g i T v es := by
  refine ⟨?_, h.foot, h.own.frame fun b hb => Below.heap_setCell _ _ _ _ (by simpa using hb.2), by omega, h.bT, hi⟩
  have hc := h.cells
  simp only [World.setCell, Array.getElem?_modify, hc, if_true, Option.map_some]
  rfl
theorem TkAt.set1 {W : World} {S : Foot} {g B T : Nat} {v : Value} {es : List Ent} (h : TkAt W S g B T v es) {i : Nat} (hi : i < 2 ^ 64) : TkAt (W.setCell ⟨g, 1, none⟩ (.int .u64 (i : Int))) S g B i v es := by
  refine ⟨?_, h.foot, h.own.frame fun b hb => Below.heap_setCell _ _ _ _ (by simpa using hb.2), h.bB, hi, h.fits⟩
  have hc := h.cells
  simp only [World.setCell, Array.getElem?_modify, hc, if_true, Option.map_some]
  rfl
set_option maxRecDepth 100000 in
theorem rcut_no_w (S : Foot) (g B T i : Nat) (v : Value) (es : List Ent) (w : World) (h : RkAt w S g B T v es) (hi : mayI B es.length i = false) :
    Calls Try.prog 33 #[.pointer (some ⟨g, 0, none⟩), .int .u64 (i : Int)] w fun r w' => r = .returned (.int .i64 2) ∧ Below w.heap.size w w' := by
  have Hlast := Lib.hid (rlast_w S g B T v es w h)
  have c0 := h.c0
  have hi2 : i < B ∨ (¬ i < B ∧ B + es.length < i) := by unfold mayI at hi; simp at hi; omega
  generalize B + es.length = L at *
  clear h hi
  rcases hi2 with h1 | ⟨h1, h2⟩
  · have e1 : decide (i < B) = true := by simp; omega
    go_enter Try.func33, Try.ntmps33
    go_wp2
    go_ret
    exact ⟨rfl, Below.refl _ _⟩
  · have e1 : decide (i < B) = false := by simp; omega
    have e2 : decide (L < i) = true := by simp; omega
    go_enter Try.func33, Try.ntmps33
    go_wp2_with (go_at_call 80; refine (Hlast.out).mono ?_; rintro r w1 ⟨rfl, hB⟩; have HB := Lib.hid hB; clear hB)
    go_ret
    exact ⟨rfl, HB.out⟩
set_option maxRecDepth 100000 in
theorem rpack_no_w (S : Foot) (g B T i : Nat) (v : Value) (es : List Ent) (w : World) (h : RkAt w S g B T v es) (hi : mayI B es.length i = false) :
    Calls Try.prog 35 #[.pointer (some ⟨g, 0, none⟩), .int .u64 (i : Int)] w fun r w' => r = .returned (.int .i64 2) ∧ Below w.heap.size w w' := by
  have Hlast := Lib.hid (rlast_w S g B T v es w h)
  have c0 := h.c0
  have hi2 : i < B ∨ (¬ i < B ∧ B + es.length < i) := by unfold mayI at hi; simp at hi; omega
  generalize B + es.length = L at *
  clear h hi
  rcases hi2 with h1 | ⟨h1, h2⟩
  · have e1 : decide (i < B) = true := by simp; omega
    go_enter Try.func35, Try.ntmps35
    go_wp2
    go_ret
    exact ⟨rfl, Below.refl _ _⟩
  · have e1 : decide (i < B) = false := by simp; omega
    have e2 : decide (L < i) = true := by simp; omega
    go_enter Try.func35, Try.ntmps35
    go_wp2_with (go_at_call 80; refine (Hlast.out).mono ?_; rintro r w1 ⟨rfl, hB⟩; have HB := Lib.hid hB; clear hB)
    go_ret
    exact ⟨rfl, HB.out⟩
set_option maxRecDepth 100000 in
set_option maxHeartbeats 1600000 in
theorem rcut_ok_w (S : Foot) (g B T i : Nat) (v : Value) (es : List Ent) (w : World) (h : RkAt w S g B T v es) (hi : mayI B es.length i = true) (hn : es.length ≤ 1000000) :
    Calls Try.prog 33 #[.pointer (some ⟨g, 0, none⟩), .int .u64 (i : Int)] w fun r w' => r = .returned (.int .i64 0) ∧ (∃ v', RkAt w' (fun b => S b ∨ w.heap.size ≤ b) g B T v' (es.take (i - B))) ∧ Touch S w w' := by
  have Hlast := Lib.hid (rlast_w S g B T v es w h)
  have H := Lib.hid (h.mono (S' := fun b => S b ∧ b < w.heap.size) fun b hb hs => ⟨hs, hb⟩)
  have HS := Lib.hid h.foot
  obtain ⟨p, c, rfl⟩ := h.own.form
  have hcap : es.length ≤ c := by obtain ⟨p, c', xs, e, q, _⟩ := h.own.rd; cases e; exact q
  have hin : B ≤ i ∧ i ≤ B + es.length := by unfold mayI at hi; simpa using hi
  obtain ⟨n, hnn⟩ : ∃ n, n = i - B := ⟨_, rfl⟩
  rw [← hnn]
  have hfit := h.fits
  have Hfit := Lib.hid hfit
  have e1 : IntKind.u64.wrap ((i : Int) - (B : Int)) = (n : Int) := by rw [IntWalk.u64_in _ (by omega)]; omega
  have hsl := fun x => run_slice_hi_u 28 53 Try.underlying28 2 (by kernel_rfl) p es.length c n (by omega) x
  have Hn := Lib.hid (show n ≤ es.length by omega)
  have Hl6 := Lib.hid hn
  have d1 : decide (i < B) = false := by simp; omega
  have d2 : decide (B + es.length < i) = false := by simp; omega
  have c0 := h.c0
  generalize B + es.length = L at *
  clear h hi hin hcap hnn hfit hn
  go_enter Try.func33, Try.ntmps33
  go_wp2_with (go_at_call 80; refine (Hlast.out).mono ?_; rintro r w1 ⟨rfl, hB⟩; have H1 := Lib.hid (H.out.keeps hB.block); have HB := Lib.hid hB; clear hB Hlast c0)
  have hsz1 : w.heap.size ≤ w1.heap.size := HB.out.size
  have Hg0 := Lib.hid (fun (W : World) (hR : RegT.Grow w1.drew W) => (World.cell?_of_block (w := w1) (a := ⟨g, 0, none⟩) (hR.block g H1.out.lt)).trans H1.out.c0)
  have Hg2 := Lib.hid (fun (W : World) (hR : RegT.Grow w1.drew W) => (World.cell?_of_block (w := w1) (a := ⟨g, 2, none⟩) (hR.block g H1.out.lt)).trans H1.out.c2)
  apply RegT.wp_region_T rfl 33 16 rfl (by kernel_rfl) RegT.Grow RegT.Grow.refl RegT.Grow.trans
  · apply RegT.T_pure rfl rfl rfl
    · intro W hR; go_simp; rfl
    simp only [List.set_cons_succ, List.set_cons_zero, Nat.reduceAdd]
    apply RegT.T_predC rfl rfl rfl 13 (FreshE w1.heap.size) (fun _ _ h => h) (fun y x z hR h => h.keeps hR.block)
    · intro W hR hf
      have hsz : w1.heap.size ≤ W.heap.size := hR.size
      clear hR hf
      go_simp
      exact RegT.OpOK_value ⟨FreshE.new hsz, (Below.refl _ _).alloc (Nat.le_refl _) _⟩
    intro v1
    simp only [List.set_cons_succ, List.set_cons_zero, Nat.reduceAdd]
    iterate 2
      apply RegT.T_pure rfl rfl rfl
      · intro W hR; go_simp; rfl
      simp only [List.set_cons_succ, List.set_cons_zero, Nat.reduceAdd]
    apply RegT.T_pure (v := .pointer (some ⟨g, 2, none⟩)) rfl rfl rfl
    · intro W hR; clear hR; go_simp
    simp only [List.set_cons_succ, List.set_cons_zero, Nat.reduceAdd]
    apply RegT.T_pure (v := .slice p es.length c) rfl rfl rfl
    · intro W hR
      have hc := Hg2.out W hR
      clear hR
      go_simp
    simp only [List.set_cons_succ, List.set_cons_zero, Nat.reduceAdd]
    iterate 3
      apply RegT.T_pure rfl rfl rfl
      · intro W hR; go_simp; rfl
      simp only [List.set_cons_succ, List.set_cons_zero, Nat.reduceAdd]
    apply RegT.T_pure (v := .pointer (some ⟨g, 0, none⟩)) rfl rfl rfl
    · intro W hR; clear hR; go_simp
    simp only [List.set_cons_succ, List.set_cons_zero, Nat.reduceAdd]
    apply RegT.T_pure (v := .int .u64 (B : Int)) rfl rfl rfl
    · intro W hR
      have hc := Hg0.out W hR
      clear hR
      go_simp
    simp only [List.set_cons_succ, List.set_cons_zero, Nat.reduceAdd]
    apply RegT.T_pure (v := .int .u64 (n : Int)) rfl rfl rfl
    · intro W hR; clear hR; go_simp
    simp only [List.set_cons_succ, List.set_cons_zero, Nat.reduceAdd]
    apply RegT.T_pure (v := .slice p n c) rfl rfl rfl
    · intro W hR; clear hR; go_simp
    simp only [List.set_cons_succ, List.set_cons_zero, Nat.reduceAdd]
    apply RegT.T_pred rfl rfl rfl (fun y W => EsG W (fun b => (S b ∨ w.heap.size ≤ b) ∧ b ≠ g) 53 y (es.take n)) (fun _ _ h => h) (fun y x z hR h => h.keeps hR.block)
    · intro W hR hf
      have h1 : FreshE w1.heap.size v1 W := hf _ (.head _) (by kernel_rfl) (.inr rfl)
      have hx := ((H1.out.own.rd.hi Hn.out).keeps ((Keeps.refl w1).drew.trans hR.block)).mono (S' := fun b => ((S b ∧ b < w.heap.size) ∧ b ≠ g) ∧ b < w1.heap.size) fun b _ hb => ⟨hb, by have := hb.1.2; omega⟩
      obtain ⟨v', w', hr, ho, hg⟩ := fresh_ents (ty := 28) h1 hx (by have := Hl6.out; rw [List.length_take]; omega) hR.size
      exact append_ok (.tmp 18) (.tmp 29) rfl rfl rfl hr ⟨ho.mono fun b _ hb => by
        rcases hb with hb | hb
        · exact ⟨.inl hb.1.1, hb.2⟩
        · have hgl := H1.out.lt
          exact ⟨.inr (by omega), by omega⟩, hg⟩
    intro v13
    simp only [List.set_cons_succ, List.set_cons_zero, Nat.reduceAdd]
    apply RegT.T_pure rfl rfl rfl
    · intro W hR; go_simp; rfl
    simp only [List.set_cons_succ, List.set_cons_zero, Nat.reduceAdd]
    apply RegT.T_pure (v := .pointer (some ⟨g, 2, none⟩)) rfl rfl rfl
    · intro W hR; clear hR; go_simp
    simp only [List.set_cons_succ, List.set_cons_zero, Nat.reduceAdd]
    refine RegT.T_tail (fun W hR hf => ?_)
    have hy : EsG W (fun b => (S b ∨ w.heap.size ≤ b) ∧ b ≠ g) 53 v13 (es.take n) := hf _ (.head _) (.inl rfl)
    obtain ⟨p8, n8, c8, rfl⟩ : ∃ p n c, v13 = .slice p n c := by obtain ⟨p, c, e⟩ := hy.form; exact ⟨p, _, c, e⟩
    have Hy := Lib.hid hy
    have HTW := Lib.hid (H1.out.keeps ((Keeps.refl w1).drew.trans hR.block))
    have hc2 := HTW.out.c2
    have hf2 := HTW.out.frozen 2
    have HTo := Lib.hid (HB.out.trans (((Below.refl w1.heap.size w1).drew.trans hR).mono HB.out.size))
    clear hR hf hy
    simp only [List.drop_succ_cons, List.drop_zero]
    go_wp2
    go_ret
    refine ⟨rfl, ⟨_, HTW.out.put (.inl HS.out) Hy.out (by have := HTW.out.fits; have := Hn.out; rw [List.length_take]; omega)⟩, ?_⟩
    exact (Touch.of_below HTo.out).trans (Touch.of_grownBy (S := S) (Lib.grownBy_setCell W g 2 _) (fun b e => by cases e; exact HS.out)) (fun b _ e => e)
  · rfl
  · kernel_rfl
end Go.Proofs.Yteellfgiejnigaa
