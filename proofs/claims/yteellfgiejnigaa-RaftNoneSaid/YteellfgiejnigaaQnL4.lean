/- L4: T21, T23, T24, T25, T26, T27, T28. -/
import Derived.Test.YteellfgiejnigaaQnL1
import Derived.Test.YteellfgiejnigaaQnL2
import Derived.Test.YteellfgiejnigaaQnL3
namespace Go.Proofs.Yteellfgiejnigaa
open Go.ChangeShapes Go.WideShapes Go.ChangeAt Go.RowKit
set_option linter.unusedVariables false
theorem add_all_w (S R : Foot) (g B T : Nat) (v sv : Value) (es ss fs : List Ent) (w : World) (h : TkAt w S g B T v es) (hr : EsR w R sv ss) (hd : ∀ b, b < w.heap.size → R b → S b → False)
    (hn : es.length + ss.length ≤ 1000000) (hl : ∀ e ∈ ss, e.2.length ≤ 1000000) (hB : B ≤ 9223372036854775808) (hf : es ++ ss = fs) :
    Calls Try.prog 27 #[.pointer (some ⟨g, 0, none⟩), sv] w fun r w' => (∃ x, r = .returned x) ∧ ∃ v', TkAt w' (fun b => S b ∨ w.heap.size ≤ b) g B T v' fs ∧ Touch S w w' := by
  have h1 := add_w S R g B T v sv es ss w h hr hd hn hl
  rw [List.take_of_length_le (by omega), hf] at h1
  exact h1
theorem tip_eq_w (S : Foot) (g B T n : Nat) (v : Value) (es : List Ent) (w : World) (h : TkAt w S g B T v es) (hn : es.length ≤ 1000000) (he : B + es.length = n) :
    Calls Try.prog 23 #[.pointer (some ⟨g, 0, none⟩)] w fun r w' => r = .returned (.tuple #[.int .u64 (n : Int), .int .u64 ((tipT T es : Nat) : Int)]) ∧ Below w.heap.size w w' := by
  rw [← he]; exact tip_w S g B T v es w h hn

end Go.Proofs.Yteellfgiejnigaa
/- Writing over entries: rows that may be spoiled, and the walk of spoil. -/
namespace Go.Proofs.Yteellfgiejnigaa
open Go.ChangeShapes Go.WideShapes Go.ChangeAt Go.RowKit
set_option linter.unusedVariables false
/-- n bytes lie here, in S, and may be written. -/
def Bs (w : World) (S : Foot) (d : Value) (n : Nat) : Prop := ∃ p c, d = .slice p n c ∧
  (0 < n → ∃ b off, p = some ⟨b, off, none⟩ ∧ S b ∧ b < w.heap.size ∧ ∀ i, i < n → (∃ x : Nat, x < 256 ∧ w.cell? ⟨b, off + i, none⟩ = some (.int .u8 (x : Int))) ∧ w.frozen? ⟨b, off + i, none⟩ = false)
theorem Bs.same {w w' : World} {S : Foot} {d : Value} {n : Nat} (h : Bs w S d n) (hs : SameOn S w w') : Bs w' S d n := by
  obtain ⟨p, c, rfl, h⟩ := h
  refine ⟨p, c, rfl, fun hn => ?_⟩
  obtain ⟨b, off, rfl, hb, hl, hc⟩ := h hn
  refine ⟨b, off, rfl, hb, lt_same hl (hs b hb), fun i hi => ?_⟩
  obtain ⟨⟨x, hx, hcell⟩, hf⟩ := hc i hi
  exact ⟨⟨x, hx, (World.cell?_of_block (w := w) (a := ⟨b, off + i, none⟩) (hs b hb)).trans hcell⟩, (World.frozen?_of_block (w := w) (a := ⟨b, off + i, none⟩) (hs b hb)).trans hf⟩
theorem Bs.set {w : World} {S : Foot} {d : Value} {n : Nat} (h : Bs w S d n) (g j y : Nat) (hy : y < 256) : Bs (w.setCell ⟨g, j, none⟩ (.int .u8 (y : Int))) S d n := by
  obtain ⟨p, c, rfl, h⟩ := h
  refine ⟨p, c, rfl, fun hn => ?_⟩
  obtain ⟨b, off, rfl, hb, hl, hc⟩ := h hn
  refine ⟨b, off, rfl, hb, by simpa [World.setCell] using hl, fun i hi => ?_⟩
  obtain ⟨⟨x, hx, hcell⟩, hf⟩ := hc i hi
  refine ⟨?_, by rw [← hf]; exact World.frozen?_setCell ..⟩
  by_cases he : b = g ∧ off + i = j
  · obtain ⟨rfl, rfl⟩ := he
    exact ⟨y, hy, World.cell?_setCell_same _ _ _ hcell⟩
  · refine ⟨x, hx, ?_⟩
    rw [← hcell]
    exact World.cell?_setCell_other _ _ _ _ (by intro e; cases e; exact he ⟨rfl, rfl⟩)
/-- A row of entries, with so many bytes each, that may be written over. -/
def SpR (w : World) (S : Foot) (g : Nat) (ms : List Nat) : Prop := S g ∧ ∃ cur, w.heap[g]? = some (.cells cur 53) ∧
  ∀ i (hi : i < ms.length), (∃ t : Nat, t < 2 ^ 64 ∧ cur[i * 2]? = some (.int .u64 (t : Int))) ∧ ∃ d, cur[i * 2 + 1]? = some d ∧ Bs w (fun b => S b ∧ b ≠ g) d ms[i]
theorem SpR.c0 {w : World} {S : Foot} {g : Nat} {ms : List Nat} (h : SpR w S g ms) {i : Nat} (hi : i < ms.length) : ∃ t : Nat, t < 2 ^ 64 ∧ w.cell? ⟨g, i * 2, none⟩ = some (.int .u64 (t : Int)) := by
  obtain ⟨_, cur, hh, hc⟩ := h
  obtain ⟨⟨t, ht, h0⟩, _⟩ := hc i hi
  exact ⟨t, ht, by rw [cell_of_row _ _ _ _ _ _ hh]; exact h0⟩
theorem SpR.c1 {w : World} {S : Foot} {g : Nat} {ms : List Nat} (h : SpR w S g ms) {i : Nat} (hi : i < ms.length) : ∃ d, w.cell? ⟨g, i * 2 + 1, none⟩ = some d ∧ Bs w (fun b => S b ∧ b ≠ g) d ms[i] := by
  obtain ⟨_, cur, hh, hc⟩ := h
  obtain ⟨_, d, h1, h2⟩ := hc i hi
  exact ⟨d, by rw [cell_of_row _ _ _ _ _ _ hh]; exact h1, h2⟩
theorem SpR.frozen {w : World} {S : Foot} {g : Nat} {ms : List Nat} (h : SpR w S g ms) (j : Nat) : w.frozen? ⟨g, j, none⟩ = false := by
  obtain ⟨_, cur, hh, _⟩ := h
  simp [World.frozen?, hh]
theorem SpR.byte {w : World} {S : Foot} {g : Nat} {ms : List Nat} (h : SpR w S g ms) {b j y : Nat} (hb : b ≠ g) (hy : y < 256) : SpR (w.setCell ⟨b, j, none⟩ (.int .u8 (y : Int))) S g ms := by
  obtain ⟨hg, cur, hh, hc⟩ := h
  refine ⟨hg, cur, by rw [Below.heap_setCell _ _ _ _ (by simpa using Ne.symm hb)]; exact hh, fun i hi => ?_⟩
  obtain ⟨h0, d, h1, h2⟩ := hc i hi
  exact ⟨h0, d, h1, h2.set b j y hy⟩
theorem SpR.term {w : World} {S : Foot} {g : Nat} {ms : List Nat} (h : SpR w S g ms) {k y : Nat} (hy : y < 2 ^ 64) : SpR (w.setCell ⟨g, k * 2, none⟩ (.int .u64 (y : Int))) S g ms := by
  obtain ⟨hg, cur, hh, hc⟩ := h
  refine ⟨hg, cur.set! (k * 2) (.int .u64 (y : Int)), ?_, fun i hi => ?_⟩
  · simp only [World.setCell, Array.getElem?_modify, hh, if_true, Option.map_some]
    rfl
  obtain ⟨⟨t, ht, h0⟩, d, h1, h2⟩ := hc i hi
  refine ⟨?_, d, ?_, h2.same fun b hb => Below.heap_setCell _ _ _ _ (by simpa using hb.2)⟩
  · simp only [Array.set!_eq_setIfInBounds, Array.getElem?_setIfInBounds]
    by_cases e : k * 2 = i * 2
    · rw [if_pos e]
      have : k * 2 < cur.size := by rw [e]; exact (Array.getElem?_eq_some_iff.1 h0).1
      exact ⟨y, hy, by rw [if_pos this]⟩
    · rw [if_neg e]; exact ⟨t, ht, h0⟩
  · simp only [Array.set!_eq_setIfInBounds, Array.getElem?_setIfInBounds]
    rw [if_neg (by omega)]; exact h1

end Go.Proofs.Yteellfgiejnigaa
/- Entries in memory of their own: the walk of the document's Copied. -/
namespace Go.Proofs.Yteellfgiejnigaa
open Go.ChangeShapes Go.WideShapes Go.ChangeAt Go.RowKit
set_option linter.unusedVariables false
theorem OB.lower {w : World} {base base' : Nat} {e : TypeId} {v : Value} {l : List UInt8} (h : OB w base e v l) (hb : base' ≤ base) : OB w base' e v l := by
  refine ⟨h.1, ?_⟩
  rcases h.2 with h2 | ⟨g, cap, cur, hv, hg, r⟩
  · exact .inl h2
  · exact .inr ⟨g, cap, cur, hv, Nat.le_trans hb hg, r⟩
theorem DatA.of_ob {w : World} {base : Nat} {v : Value} {l : List UInt8} (h : OB w base 5 v l) : DatA w (fun b => base ≤ b) v l :=
  ⟨h.rd, fun g e _ => (h.lt g e).1, fun g e _ => (h.lt g e).2, fun b off c e i hi => by
    subst e
    obtain ⟨g, hg, _⟩ := OB.some h (by omega)
    cases hg
    rw [Nat.zero_add]
    exact (h.cell rfl hi).2.1⟩
/-- A new empty row of bytes. -/
def Fresh (B0 : Nat) (y : Value) (W : World) : Prop := ∃ N, y = .slice (some ⟨N, 0, none⟩) 0 0 ∧ OB W B0 5 y []
theorem Fresh.keeps {B0 : Nat} {y : Value} {W W' : World} (h : Fresh B0 y W) (hk : Keeps W W') : Fresh B0 y W' := by
  obtain ⟨N, rfl, h⟩ := h; exact ⟨N, rfl, h.keeps hk⟩
/-- A copy of these bytes. -/
def DatOf (l : List UInt8) (B0 : Nat) (y : Value) (W : World) : Prop := ∃ p c, y = .slice p l.length c ∧ DatA W (fun b => B0 ≤ b) (.slice p l.length c) l
theorem DatOf.keeps {l : List UInt8} {B0 : Nat} {y : Value} {W W' : World} (h : DatOf l B0 y W) (hk : Keeps W W') : DatOf l B0 y W' := by
  obtain ⟨p, c, rfl, hd⟩ := h; exact ⟨p, c, rfl, hd.keeps hk⟩
end Go.Proofs.Yteellfgiejnigaa
/- The document's track as it lies; walks of its Last, TermAt and Add. -/
namespace Go.Proofs.Yteellfgiejnigaa
open Go.ChangeShapes Go.WideShapes Go.ChangeAt Go.RowKit
set_option linter.unusedVariables false
structure RkAt (w : World) (S : Foot) (g B T : Nat) (v : Value) (es : List Ent) : Prop where
  cells : w.heap[g]? = some (.cells #[.int .u64 (B : Int), .int .u64 (T : Int), v] 59)
  foot : S g
  own : EsG w (fun b => S b ∧ b ≠ g) 53 v es
  bB : B < 2 ^ 64
  bT : T < 2 ^ 64
  fits : B + es.length < 2 ^ 64
theorem RkAt.lt {w : World} {S : Foot} {g B T : Nat} {v : Value} {es : List Ent} (h : RkAt w S g B T v es) : g < w.heap.size := (Array.getElem?_eq_some_iff.1 h.cells).1
theorem RkAt.frame {w w' : World} {S : Foot} {g B T : Nat} {v : Value} {es : List Ent} (h : RkAt w S g B T v es) (hs : SameOn S w w') : RkAt w' S g B T v es :=
  ⟨by rw [hs g h.foot]; exact h.cells, h.foot, h.own.frame fun b hb => hs b hb.1, h.bB, h.bT, h.fits⟩
theorem RkAt.keeps {w w' : World} {S : Foot} {g B T : Nat} {v : Value} {es : List Ent} (h : RkAt w S g B T v es) (hk : Keeps w w') : RkAt w' S g B T v es :=
  ⟨by rw [hk g h.lt]; exact h.cells, h.foot, h.own.keeps hk, h.bB, h.bT, h.fits⟩
theorem RkAt.mono {w : World} {S S' : Foot} {g B T : Nat} {v : Value} {es : List Ent} (h : RkAt w S g B T v es) (hs : ∀ b, b < w.heap.size → S b → S' b) : RkAt w S' g B T v es :=
  ⟨h.cells, hs g h.lt h.foot, h.own.mono fun b hlt hb => ⟨hs b hlt hb.1, hb.2⟩, h.bB, h.bT, h.fits⟩
theorem RkAt.c0 {w : World} {S : Foot} {g B T : Nat} {v : Value} {es : List Ent} (h : RkAt w S g B T v es) : w.cell? ⟨g, 0, none⟩ = some (.int .u64 (B : Int)) := by rw [cell_of_row _ _ _ _ _ _ h.cells]; rfl
theorem RkAt.c1 {w : World} {S : Foot} {g B T : Nat} {v : Value} {es : List Ent} (h : RkAt w S g B T v es) : w.cell? ⟨g, 1, none⟩ = some (.int .u64 (T : Int)) := by rw [cell_of_row _ _ _ _ _ _ h.cells]; rfl
theorem RkAt.c2 {w : World} {S : Foot} {g B T : Nat} {v : Value} {es : List Ent} (h : RkAt w S g B T v es) : w.cell? ⟨g, 2, none⟩ = some v := by rw [cell_of_row _ _ _ _ _ _ h.cells]; rfl
theorem RkAt.frozen {w : World} {S : Foot} {g B T : Nat} {v : Value} {es : List Ent} (h : RkAt w S g B T v es) (k : Nat) : w.frozen? ⟨g, k, none⟩ = false := by
  have h := h.cells
  simp [World.frozen?, h]

theorem RkAt.put {W : World} {S S' : Foot} {g B T : Nat} {v y : Value} {es fs : List Ent} (h : RkAt W S g B T v es) (hg : S' g) (ho : EsG W (fun b => S' b ∧ b ≠ g) 53 y fs) (hf : B + fs.length < 2 ^ 64) : RkAt (W.setCell ⟨g, 2, none⟩ y) S' g B T y fs := by
  refine ⟨?_, hg, ho.frame fun b hb => Below.heap_setCell _ _ _ _ (by simpa using hb.2), h.bB, h.bT, hf⟩
  have hc := h.cells
  simp only [World.setCell, Array.getElem?_modify, hc, if_true, Option.map_some]
  rfl

end Go.Proofs.Yteellfgiejnigaa
/- Cutting and packing: walks of the document's Cut and Pack, and of Pack, Copy and Base. -/
namespace Go.Proofs.Yteellfgiejnigaa
open Go.ChangeShapes Go.WideShapes Go.ChangeAt Go.RowKit
set_option linter.unusedVariables false
theorem EsR.src {w : World} {S : Foot} {v : Value} {es : List Ent} (h : EsR w S v es) : ∃ xs, EsC w S xs es ∧ SrcR w 2 v es.length xs := by
  obtain ⟨p, c, xs, rfl, h1, h2, h3, h4, h5⟩ := h
  refine ⟨xs, h4, p, c, rfl, h4.len, h4.one, ?_⟩
  cases p with
  | none => have := h3 rfl; exact .inl ⟨rfl, by omega, this⟩
  | some a =>
    refine .inr ⟨a, rfl, fun j u hu => ?_⟩
    by_cases he : es = []
    · subst he
      have : xs = [] := List.eq_nil_of_length_eq_zero (by rw [h4.len]; rfl)
      subst this
      cases hu
    · obtain ⟨b, off, e, _, _, hc⟩ := h5 he
      cases e
      rw [plain_add]
      exact hc j u hu
/-- A new empty row of entries. -/
def FreshE (B0 : Nat) (y : Value) (W : World) : Prop := ∃ N, y = .slice (some ⟨N, 0, none⟩) 0 0 ∧ W.ownsRow B0 53 2 y 0 []
theorem FreshE.keeps {B0 : Nat} {y : Value} {W W' : World} (h : FreshE B0 y W) (hk : Keeps W W') : FreshE B0 y W' := by
  obtain ⟨N, rfl, h⟩ := h
  refine ⟨N, rfl, h.1, ?_⟩
  rcases h.2 with h2 | ⟨g, cap, cur, hv, hg, hh, r⟩
  · exact .inl h2
  · exact .inr ⟨g, cap, cur, hv, hg, by rw [hk g (Array.getElem?_eq_some_iff.1 hh).1]; exact hh, r⟩
theorem FreshE.new {W : World} {B0 : Nat} (hB : B0 ≤ W.heap.size) : FreshE B0 (.slice (some ⟨W.heap.size, 0, none⟩) 0 0) (W.alloc (.cells #[] 53)) := ⟨_, rfl, World.ownsRow_lit W #[] 0 hB (by unfold maxLen; omega) rfl⟩
end Go.Proofs.Yteellfgiejnigaa
/- Packing, copying: walks of the document's Pack, and of Pack, Copy and Base. -/
namespace Go.Proofs.Yteellfgiejnigaa
open Go.ChangeShapes Go.WideShapes Go.ChangeAt Go.RowKit
set_option linter.unusedVariables false
set_option maxRecDepth 100000 in
theorem base_w (S : Foot) (g B T : Nat) (v : Value) (es : List Ent) (w : World) (h : TkAt w S g B T v es) :
    Calls Try.prog 42 #[.pointer (some ⟨g, 0, none⟩)] w fun r w' => r = .returned (.tuple #[.int .u64 (B : Int), .int .u64 (T : Int)]) ∧ Below w.heap.size w w' := by
  have c0 := h.c0
  have c1 := h.c1
  clear h
  go_enter Try.func42, Try.ntmps42
  go_wp2
  go_quiet (fail)
  go_wp2
  go_ret2
  exact ⟨rfl, ⟨rfl, rfl, rfl, Nat.le_refl _, fun _ _ => rfl⟩⟩
/-- A new track. -/
def NewTk (B0 B T : Nat) (es : List Ent) (y : Value) (W : World) : Prop := ∃ N v', y = .pointer (some ⟨N, 0, none⟩) ∧ B0 ≤ N ∧ TkAt W (fun b => B0 ≤ b) N B T v' es
theorem NewTk.keeps {B0 B T : Nat} {es : List Ent} {y : Value} {W W' : World} (h : NewTk B0 B T es y W) (hk : Keeps W W') : NewTk B0 B T es y W' := by
  obtain ⟨N, v', e, hN, ht⟩ := h; exact ⟨N, v', e, hN, ht.keeps hk⟩
set_option maxRecDepth 100000 in
set_option maxHeartbeats 1600000 in
theorem copy_w (S : Foot) (g B T : Nat) (v : Value) (es : List Ent) (w : World) (h : TkAt w S g B T v es) (hn : es.length ≤ 1000000) (hl : ∀ e ∈ es, e.2.length ≤ 1000000) :
    Calls Try.prog 39 #[.pointer (some ⟨g, 0, none⟩)] w fun r w' => ∃ N v', r = .returned (.pointer (some ⟨N, 0, none⟩)) ∧ w.heap.size ≤ N ∧ TkAt w' (fun b => w.heap.size ≤ b) N B T v' es ∧ Below w.heap.size w w' := by
  have H := Lib.hid h
  have hfit := h.fits
  have Hnew := Lib.hid (fun W (hW : EsR W (fun b => S b ∧ b ≠ g) v es) => new_w _ B T v es W h.bB h.bT hW hn hl)
  rw [List.take_of_length_le (by omega)] at Hnew
  clear h hfit hn hl
  go_enter Try.func39, Try.ntmps39
  go_wp2
  have Hg0 := Lib.hid (fun (W : World) (hR : RegT.Grow w.drew W) => (World.cell?_of_block (w := w) (a := ⟨g, 0, none⟩) (hR.block g H.out.lt)).trans H.out.c0)
  have Hg1 := Lib.hid (fun (W : World) (hR : RegT.Grow w.drew W) => (World.cell?_of_block (w := w) (a := ⟨g, 1, none⟩) (hR.block g H.out.lt)).trans H.out.c1)
  have Hg2 := Lib.hid (fun (W : World) (hR : RegT.Grow w.drew W) => (World.cell?_of_block (w := w) (a := ⟨g, 2, none⟩) (hR.block g H.out.lt)).trans H.out.c2)
  apply RegT.wp_region_T rfl 18 13 rfl (by kernel_rfl) RegT.Grow RegT.Grow.refl RegT.Grow.trans
  · iterate 2
      apply RegT.T_pure rfl rfl rfl
      · intro W hR; go_simp; rfl
      simp only [List.set_cons_succ, List.set_cons_zero, Nat.reduceAdd]
    apply RegT.T_pure (v := .pointer (some ⟨g, 0, none⟩)) rfl rfl rfl
    · intro W hR; clear hR; go_simp
    simp only [List.set_cons_succ, List.set_cons_zero, Nat.reduceAdd]
    apply RegT.T_pure (v := .int .u64 (B : Int)) rfl rfl rfl
    · intro W hR
      have hc := Hg0.out W hR
      clear hR
      go_simp
    simp only [List.set_cons_succ, List.set_cons_zero, Nat.reduceAdd]
    iterate 2
      apply RegT.T_pure rfl rfl rfl
      · intro W hR; go_simp; rfl
      simp only [List.set_cons_succ, List.set_cons_zero, Nat.reduceAdd]
    apply RegT.T_pure (v := .pointer (some ⟨g, 1, none⟩)) rfl rfl rfl
    · intro W hR; clear hR; go_simp
    simp only [List.set_cons_succ, List.set_cons_zero, Nat.reduceAdd]
    apply RegT.T_pure (v := .int .u64 (T : Int)) rfl rfl rfl
    · intro W hR
      have hc := Hg1.out W hR
      clear hR
      go_simp
    simp only [List.set_cons_succ, List.set_cons_zero, Nat.reduceAdd]
    iterate 2
      apply RegT.T_pure rfl rfl rfl
      · intro W hR; go_simp; rfl
      simp only [List.set_cons_succ, List.set_cons_zero, Nat.reduceAdd]
    apply RegT.T_pure (v := .pointer (some ⟨g, 2, none⟩)) rfl rfl rfl
    · intro W hR; clear hR; go_simp
    simp only [List.set_cons_succ, List.set_cons_zero, Nat.reduceAdd]
    apply RegT.T_pure (v := v) rfl rfl rfl
    · intro W hR
      have hc := Hg2.out W hR
      clear hR
      go_simp
    simp only [List.set_cons_succ, List.set_cons_zero, Nat.reduceAdd]
    apply RegT.T_pred rfl rfl rfl (NewTk w.heap.size B T es) (fun _ _ h => h) (fun y x z hR h => h.keeps hR.block)
    · intro W hR hf
      have hsz : w.heap.size ≤ W.heap.size := hR.size
      have Hc := Lib.hid (Hnew.out W (H.out.own.rd.keeps ((Keeps.refl w).drew.trans hR.block)))
      clear hR hf
      go_simp
      exact RegT.OpOK_enter Hc.out (fun e w' ⟨he, ⟨v', ht⟩, hB⟩ => ⟨_, he, ⟨_, v', rfl, hsz, ht.mono fun b _ hb => Nat.le_trans hsz hb⟩, hB⟩)
    intro vA
    simp only [List.set_cons_succ, List.set_cons_zero, Nat.reduceAdd]
    refine RegT.T_tail (fun W hR hf => ?_)
    have hy : NewTk w.heap.size B T es vA W := hf _ (.head _) (.inl rfl)
    obtain ⟨N, v', rfl, hN, ht⟩ := hy
    have Hy := Lib.hid ht
    have HTo := Lib.hid (show Below w.heap.size w W from (Below.refl w.heap.size w).drew.trans hR)
    clear hR hf ht
    simp only [List.drop_succ_cons, List.drop_zero]
    go_wp2
    go_ret
    exact ⟨_, _, rfl, hN, Hy.out, HTo.out⟩
  · rfl
  · kernel_rfl
end Go.Proofs.Yteellfgiejnigaa
/- Walks of the document's Slice and Meet. -/
namespace Go.Proofs.Yteellfgiejnigaa
open Go.ChangeShapes Go.WideShapes Go.ChangeAt Go.RowKit
set_option linter.unusedVariables false
section
variable {ops : Array Oper} {rest : List Oper} {o : Oper} {a : Act} {w : World} {Q : Exit → Act → World → Prop}
end
end Go.Proofs.Yteellfgiejnigaa
