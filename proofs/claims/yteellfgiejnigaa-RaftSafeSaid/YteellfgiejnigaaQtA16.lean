/- RaftSafe: L4. -/
import Derived.Test.YteellfgiejnigaaQtA00
import Derived.Test.YteellfgiejnigaaQtA01
import Derived.Test.YteellfgiejnigaaQtA15
namespace Go.Proofs.Yteellfgiejnigaa
open Go.ChangeShapes Go.WideShapes Go.ChangeAt Go.RowKit
set_option linter.unusedVariables false
theorem add_all_w (S R : Foot) (g B T : Nat) (v sv : Value) (es ss fs : List Ent) (w : World) (h : TkAt w S g B T v es) (hr : EsR w R sv ss) (hd : ∀ b, b < w.heap.size → R b → S b → False)
 (hn : es.length + ss.length ≤ 1000000) (hl : ∀ e ∈ ss, e.2.length ≤ 1000000) (hB : B ≤ 9223372036854775808) (hf : es ++ ss = fs) :
 Calls Try.prog 27 #[.pointer (some ⟨g, 0, none⟩), sv] w fun r w' => (∃ x, r = .returned x) ∧ ∃ v', TkAt w' (fun b => S b ∨ w.heap.size ≤ b) g B T v' fs ∧ Touch S w w' := by
 have h1 := add_w S R g B T v sv es ss w h hr hd hn hl
 rw [List.take_of_length_le (by omega), hf] at h1
 exact h1
theorem tip_eq_w (S : Foot) (g B T n : Nat) (v : Value) (es : List Ent) (w : World) (h : TkAt w S g B T v es) (hn : es.length ≤ 1000000) (he : B + es.length = n) :
 Calls Try.prog 23 #[.pointer (some ⟨g, 0, none⟩)] w fun r w' => r = .returned (.tuple #[.int .u64 (n : Int), .int .u64 ((tipT T es : Nat) : Int)]) ∧ Below w.heap.size w w' := by
 rw [← he]; exact tip_w S g B T v es w h hn
def Bs (w : World) (S : Foot) (d : Value) (n : Nat) : Prop := ∃ p c, d = .slice p n c ∧
 (0 < n → ∃ b off, p = some ⟨b, off, none⟩ ∧ S b ∧ b < w.heap.size ∧ ∀ i, i < n → (∃ x : Nat, x < 256 ∧ w.cell? ⟨b, off + i, none⟩ = some (.int .u8 (x : Int))) ∧ w.frozen? ⟨b, off + i, none⟩ = false)
theorem Bs.same {w w' : World} {S : Foot} {d : Value} {n : Nat} (h : Bs w S d n) (hs : SameOn S w w') : Bs w' S d n := by
 obtain ⟨p, c, rfl, h⟩ := h
 refine ⟨p, c, rfl, fun hn => ?_⟩
 obtain ⟨b, off, rfl, hb, hl, hc⟩ := h hn
 refine ⟨b, off, rfl, hb, lt_same hl (hs b hb), fun i hi => ?_⟩
 obtain ⟨⟨x, hx, hcell⟩, hf⟩ := hc i hi
 exact ⟨⟨x, hx, (World.cell?_of_block (w := w) (a := ⟨b, off + i, none⟩) (hs b hb)).trans hcell⟩, (World.frozen?_of_block (w := w) (a := ⟨b, off + i, none⟩) (hs b hb)).trans hf⟩
theorem Bs.set {w : World} {S : Foot} {d : Value} {n : Nat} (h : Bs w S d n) (g j y : Nat) (hy : y < 256) : Bs (w.setCell ⟨g, j, none⟩ (.int .u8 (y : Int))) S d n := by
 obtain ⟨p, c, rfl, h⟩ := h
 refine ⟨p, c, rfl, fun hn => ?_⟩
 obtain ⟨b, off, rfl, hb, hl, hc⟩ := h hn
 refine ⟨b, off, rfl, hb, by simpa [World.setCell] using hl, fun i hi => ?_⟩
 obtain ⟨⟨x, hx, hcell⟩, hf⟩ := hc i hi
 refine ⟨?_, by rw [← hf]; exact World.frozen?_setCell ..⟩
 by_cases he : b = g ∧ off + i = j
 · obtain ⟨rfl, rfl⟩ := he
   exact ⟨y, hy, World.cell?_setCell_same _ _ _ hcell⟩
 · refine ⟨x, hx, ?_⟩
   rw [← hcell]
   exact World.cell?_setCell_other _ _ _ _ (by intro e; cases e; exact he ⟨rfl, rfl⟩)
def SpR (w : World) (S : Foot) (g : Nat) (ms : List Nat) : Prop := S g ∧ ∃ cur, w.heap[g]? = some (.cells cur 53) ∧
 ∀ i (hi : i < ms.length), (∃ t : Nat, t < 2 ^ 64 ∧ cur[i * 2]? = some (.int .u64 (t : Int))) ∧ ∃ d, cur[i * 2 + 1]? = some d ∧ Bs w (fun b => S b ∧ b ≠ g) d ms[i]
theorem SpR.c0 {w : World} {S : Foot} {g : Nat} {ms : List Nat} (h : SpR w S g ms) {i : Nat} (hi : i < ms.length) : ∃ t : Nat, t < 2 ^ 64 ∧ w.cell? ⟨g, i * 2, none⟩ = some (.int .u64 (t : Int)) := by
 obtain ⟨_, cur, hh, hc⟩ := h
 obtain ⟨⟨t, ht, h0⟩, _⟩ := hc i hi
 exact ⟨t, ht, by rw [cell_of_row _ _ _ _ _ _ hh]; exact h0⟩
theorem SpR.c1 {w : World} {S : Foot} {g : Nat} {ms : List Nat} (h : SpR w S g ms) {i : Nat} (hi : i < ms.length) : ∃ d, w.cell? ⟨g, i * 2 + 1, none⟩ = some d ∧ Bs w (fun b => S b ∧ b ≠ g) d ms[i] := by
 obtain ⟨_, cur, hh, hc⟩ := h
 obtain ⟨_, d, h1, h2⟩ := hc i hi
 exact ⟨d, by rw [cell_of_row _ _ _ _ _ _ hh]; exact h1, h2⟩
theorem SpR.frozen {w : World} {S : Foot} {g : Nat} {ms : List Nat} (h : SpR w S g ms) (j : Nat) : w.frozen? ⟨g, j, none⟩ = false := by
 obtain ⟨_, cur, hh, _⟩ := h
 simp [World.frozen?, hh]
theorem SpR.byte {w : World} {S : Foot} {g : Nat} {ms : List Nat} (h : SpR w S g ms) {b j y : Nat} (hb : b ≠ g) (hy : y < 256) : SpR (w.setCell ⟨b, j, none⟩ (.int .u8 (y : Int))) S g ms := by
 obtain ⟨hg, cur, hh, hc⟩ := h
 refine ⟨hg, cur, by rw [Below.heap_setCell _ _ _ _ (by simpa using Ne.symm hb)]; exact hh, fun i hi => ?_⟩
 obtain ⟨h0, d, h1, h2⟩ := hc i hi
 exact ⟨h0, d, h1, h2.set b j y hy⟩
theorem SpR.term {w : World} {S : Foot} {g : Nat} {ms : List Nat} (h : SpR w S g ms) {k y : Nat} (hy : y < 2 ^ 64) : SpR (w.setCell ⟨g, k * 2, none⟩ (.int .u64 (y : Int))) S g ms := by
 obtain ⟨hg, cur, hh, hc⟩ := h
 refine ⟨hg, cur.set! (k * 2) (.int .u64 (y : Int)), ?_, fun i hi => ?_⟩
 · simp only [World.setCell, Array.getElem?_modify, hh, if_true, Option.map_some]
   rfl
 obtain ⟨⟨t, ht, h0⟩, d, h1, h2⟩ := hc i hi
 refine ⟨?_, d, ?_, h2.same fun b hb => Below.heap_setCell _ _ _ _ (by simpa using hb.2)⟩
 · simp only [Array.set!_eq_setIfInBounds, Array.getElem?_setIfInBounds]
   by_cases e : k * 2 = i * 2
   · rw [if_pos e]
     have : k * 2 < cur.size := by rw [e]; exact (Array.getElem?_eq_some_iff.1 h0).1
     exact ⟨y, hy, by rw [if_pos this]⟩
   · rw [if_neg e]; exact ⟨t, ht, h0⟩
 · simp only [Array.set!_eq_setIfInBounds, Array.getElem?_setIfInBounds]
   rw [if_neg (by omega)]; exact h1
theorem OB.lower {w : World} {base base' : Nat} {e : TypeId} {v : Value} {l : List UInt8} (h : OB w base e v l) (hb : base' ≤ base) : OB w base' e v l := by
 refine ⟨h.1, ?_⟩
 rcases h.2 with h2 | ⟨g, cap, cur, hv, hg, r⟩
 · exact .inl h2
 · exact .inr ⟨g, cap, cur, hv, Nat.le_trans hb hg, r⟩
theorem DatA.of_ob {w : World} {base : Nat} {v : Value} {l : List UInt8} (h : OB w base 5 v l) : DatA w (fun b => base ≤ b) v l :=
 ⟨h.rd, fun g e _ => (h.lt g e).1, fun g e _ => (h.lt g e).2, fun b off c e i hi => by
  subst e
  obtain ⟨g, hg, _⟩ := OB.some h (by omega)
  cases hg
  rw [Nat.zero_add]
  exact (h.cell rfl hi).2.1⟩
def Fresh (B0 : Nat) (y : Value) (W : World) : Prop := ∃ N, y = .slice (some ⟨N, 0, none⟩) 0 0 ∧ OB W B0 5 y []
theorem Fresh.keeps {B0 : Nat} {y : Value} {W W' : World} (h : Fresh B0 y W) (hk : Keeps W W') : Fresh B0 y W' := by
 obtain ⟨N, rfl, h⟩ := h; exact ⟨N, rfl, h.keeps hk⟩
def DatOf (l : List UInt8) (B0 : Nat) (y : Value) (W : World) : Prop := ∃ p c, y = .slice p l.length c ∧ DatA W (fun b => B0 ≤ b) (.slice p l.length c) l
theorem DatOf.keeps {l : List UInt8} {B0 : Nat} {y : Value} {W W' : World} (h : DatOf l B0 y W) (hk : Keeps W W') : DatOf l B0 y W' := by
 obtain ⟨p, c, rfl, hd⟩ := h; exact ⟨p, c, rfl, hd.keeps hk⟩
theorem fresh_append {w : World} {B0 : Nat} {ty : TypeId} {y x : Value} {l : List UInt8} (h : Fresh B0 y w) (hx : RdB w x l) (hl : l.length ≤ 140737488355328) (hB : B0 ≤ w.heap.size) :
 ∃ v' w', (Builtin.append_ #[29, 29] ty #[y, x]).run Try.prog w = .ok v' w' ∧ DatOf l B0 v' w' ∧ RegT.Grow w w' := by
 obtain ⟨N, rfl, ho⟩ := h
 obtain ⟨v', w', hr, ho', hg⟩ := run_append_fresh (P := Try.prog) (ty := ty) hel (base := B0) ho hx.src (by unfold maxLen; omega) (by omega) hB
 have hob : OB w' B0 5 v' l := ho'
 obtain ⟨p, c, rfl⟩ := hob.form
 exact ⟨_, w', hr, ⟨p, c, rfl, DatA.of_ob hob⟩, hg⟩
structure RkAt (w : World) (S : Foot) (g B T : Nat) (v : Value) (es : List Ent) : Prop where
 cells : w.heap[g]? = some (.cells #[.int .u64 (B : Int), .int .u64 (T : Int), v] 59)
 foot : S g
 own : EsG w (fun b => S b ∧ b ≠ g) 53 v es
 bB : B < 2 ^ 64
 bT : T < 2 ^ 64
 fits : B + es.length < 2 ^ 64
theorem RkAt.lt {w : World} {S : Foot} {g B T : Nat} {v : Value} {es : List Ent} (h : RkAt w S g B T v es) : g < w.heap.size := (Array.getElem?_eq_some_iff.1 h.cells).1
theorem RkAt.frame {w w' : World} {S : Foot} {g B T : Nat} {v : Value} {es : List Ent} (h : RkAt w S g B T v es) (hs : SameOn S w w') : RkAt w' S g B T v es :=
 ⟨by rw [hs g h.foot]; exact h.cells, h.foot, h.own.frame fun b hb => hs b hb.1, h.bB, h.bT, h.fits⟩
theorem RkAt.keeps {w w' : World} {S : Foot} {g B T : Nat} {v : Value} {es : List Ent} (h : RkAt w S g B T v es) (hk : Keeps w w') : RkAt w' S g B T v es :=
 ⟨by rw [hk g h.lt]; exact h.cells, h.foot, h.own.keeps hk, h.bB, h.bT, h.fits⟩
theorem RkAt.mono {w : World} {S S' : Foot} {g B T : Nat} {v : Value} {es : List Ent} (h : RkAt w S g B T v es) (hs : ∀ b, b < w.heap.size → S b → S' b) : RkAt w S' g B T v es :=
 ⟨h.cells, hs g h.lt h.foot, h.own.mono fun b hlt hb => ⟨hs b hlt hb.1, hb.2⟩, h.bB, h.bT, h.fits⟩
theorem RkAt.c0 {w : World} {S : Foot} {g B T : Nat} {v : Value} {es : List Ent} (h : RkAt w S g B T v es) : w.cell? ⟨g, 0, none⟩ = some (.int .u64 (B : Int)) := by rw [cell_of_row _ _ _ _ _ _ h.cells]; rfl
theorem RkAt.c1 {w : World} {S : Foot} {g B T : Nat} {v : Value} {es : List Ent} (h : RkAt w S g B T v es) : w.cell? ⟨g, 1, none⟩ = some (.int .u64 (T : Int)) := by rw [cell_of_row _ _ _ _ _ _ h.cells]; rfl
theorem RkAt.c2 {w : World} {S : Foot} {g B T : Nat} {v : Value} {es : List Ent} (h : RkAt w S g B T v es) : w.cell? ⟨g, 2, none⟩ = some v := by rw [cell_of_row _ _ _ _ _ _ h.cells]; rfl
theorem RkAt.frozen {w : World} {S : Foot} {g B T : Nat} {v : Value} {es : List Ent} (h : RkAt w S g B T v es) (k : Nat) : w.frozen? ⟨g, k, none⟩ = false := by
 have h := h.cells
 simp [World.frozen?, h]
theorem RkAt.put {W : World} {S S' : Foot} {g B T : Nat} {v y : Value} {es fs : List Ent} (h : RkAt W S g B T v es) (hg : S' g) (ho : EsG W (fun b => S' b ∧ b ≠ g) 53 y fs) (hf : B + fs.length < 2 ^ 64) : RkAt (W.setCell ⟨g, 2, none⟩ y) S' g B T y fs := by
 refine ⟨?_, hg, ho.frame fun b hb => Below.heap_setCell _ _ _ _ (by simpa using hb.2), h.bB, h.bT, hf⟩
 have hc := h.cells
 simp only [World.setCell, Array.getElem?_modify, hc, if_true, Option.map_some]
 rfl
theorem EsR.elemF {w : World} {S : Foot} {v : Value} {es : List Ent} (h : EsR w S v es) (k : Nat) (hk : k < es.length) : ∃ b off c d, v = .slice (some ⟨b, off, none⟩) es.length c ∧ S b ∧ b < w.heap.size ∧
 w.cell? ⟨b, off + k * 2, none⟩ = some (.int .u64 ((es[k].1 : Nat) : Int)) ∧ w.cell? ⟨b, off + k * 2 + 1, none⟩ = some d ∧ DatA w S d es[k].2 ∧ es[k].1 < 2 ^ 64 := by
 obtain ⟨p, c, xs, rfl, h1, h2, h3, h4, h5⟩ := h
 obtain ⟨b, off, rfl, hb, hlt, hc⟩ := h5 (by rintro rfl; simp at hk)
 obtain ⟨d, q1, q2, q3, q4⟩ := h4.at k hk
 exact ⟨b, off, c, d, rfl, hb, hlt, hc _ _ q1, by rw [Nat.add_assoc]; exact hc _ _ q2, q3, q4⟩
theorem EsR.src {w : World} {S : Foot} {v : Value} {es : List Ent} (h : EsR w S v es) : ∃ xs, EsC w S xs es ∧ SrcR w 2 v es.length xs := by
 obtain ⟨p, c, xs, rfl, h1, h2, h3, h4, h5⟩ := h
 refine ⟨xs, h4, p, c, rfl, h4.len, h4.one, ?_⟩
 cases p with
 | none => have := h3 rfl; exact .inl ⟨rfl, by omega, this⟩
 | some a =>
  refine .inr ⟨a, rfl, fun j u hu => ?_⟩
  by_cases he : es = []
  · subst he
    have : xs = [] := List.eq_nil_of_length_eq_zero (by rw [h4.len]; rfl)
    subst this
    cases hu
  · obtain ⟨b, off, e, _, _, hc⟩ := h5 he
    cases e
    rw [plain_add]
    exact hc j u hu
theorem EsR.lo {w : World} {S : Foot} {p : Option Addr} {n c : Nat} {es : List Ent} (h : EsR w S (.slice p n c) es) {l : Nat} (hl : l ≤ es.length) : EsR w S (.slice (if c = l then p else p.map (·.add (l * 2))) (n - l) (c - l)) (es.drop l) := by
 obtain ⟨p', c', xs, e, h1, h2, h3, h4, h5⟩ := h
 cases e
 refine ⟨_, c - l, xs.drop (l * 2), by rw [List.length_drop], by rw [List.length_drop]; omega, by omega, fun e => ?_, h4.drop l, fun hne => ?_⟩
 · by_cases hcl : c = l
   · omega
   · rw [if_neg hcl] at e
     have : p = none := by simpa using e
     have := h3 this
     omega
 · have hlt : l < es.length := by
    rcases Nat.lt_or_ge l es.length with h | h
    · exact h
    · exact absurd (List.drop_eq_nil_of_le h) hne
   obtain ⟨b, off, rfl, hb, hbl, hc⟩ := h5 (by rintro rfl; simp at hlt)
   rw [if_neg (by omega)]
   refine ⟨b, off + l * 2, by simp [plain_add], hb, hbl, fun j u hu => ?_⟩
   rw [List.getElem?_drop] at hu
   rw [Nat.add_assoc]
   exact hc _ _ hu
theorem slice_lo_es {w : World} {S : Foot} {p : Option Addr} {n c : Nat} {es : List Ent} (h : EsR w S (.slice p n c) es) {l : Nat} (hl : l ≤ es.length) :
 ∃ q d, (∀ W, (Instr.sliceAt 28 (.slice p n c) (some (.int .u64 (l : Int))) none none).run Try.prog W = .ok (.slice q (n - l) d) W) ∧ EsR w S (.slice q (n - l) d) (es.drop l) := by
 have hn : n = es.length := by obtain ⟨p', c', xs, e, _⟩ := h; cases e; rfl
 exact ⟨_, _, fun W => run_slice_lo_u 28 53 Try.underlying28 2 (by kernel_rfl) p n c l (by omega) W, h.lo hl⟩
def FreshE (B0 : Nat) (y : Value) (W : World) : Prop := ∃ N, y = .slice (some ⟨N, 0, none⟩) 0 0 ∧ W.ownsRow B0 53 2 y 0 []
theorem FreshE.keeps {B0 : Nat} {y : Value} {W W' : World} (h : FreshE B0 y W) (hk : Keeps W W') : FreshE B0 y W' := by
 obtain ⟨N, rfl, h⟩ := h
 refine ⟨N, rfl, h.1, ?_⟩
 rcases h.2 with h2 | ⟨g, cap, cur, hv, hg, hh, r⟩
 · exact .inl h2
 · exact .inr ⟨g, cap, cur, hv, hg, by rw [hk g (Array.getElem?_eq_some_iff.1 hh).1]; exact hh, r⟩
theorem FreshE.new {W : World} {B0 : Nat} (hB : B0 ≤ W.heap.size) : FreshE B0 (.slice (some ⟨W.heap.size, 0, none⟩) 0 0) (W.alloc (.cells #[] 53)) := ⟨_, rfl, World.ownsRow_lit W #[] 0 hB (by unfold maxLen; omega) rfl⟩
theorem esg_of_own {w : World} {B0 : Nat} {S : Foot} {v : Value} {xs : List Value} {es : List Ent} (h : w.ownsRow B0 53 2 v es.length xs) (hx : EsC w (fun b => S b ∧ b < B0) xs es) : EsG w (fun b => S b ∨ B0 ≤ b) 53 v es := by
 rcases h.2 with ⟨rfl, h0⟩ | ⟨g, cap, cur, rfl, hg, hh, h1, h2, h3, h4⟩
 · exact .inl ⟨rfl, List.eq_nil_of_length_eq_zero h0⟩
 · refine .inr ⟨g, cap, cur, rfl, .inr hg, hh, h1, h2, by omega, ?_⟩
   rw [h4]
   exact hx.mono fun b _ hb => ⟨.inl hb.1, by have := hb.2; omega⟩
theorem nil_ents {w : World} {B0 : Nat} {ty : TypeId} {S : Foot} {x : Value} {es : List Ent} (hx : EsR w (fun b => S b ∧ b < B0) x es) (hl : es.length ≤ 1000000) (hB : B0 ≤ w.heap.size) :
 ∃ v' w', (Builtin.append_ #[28, 28] ty #[.slice none 0 0, x]).run Try.prog w = .ok v' w' ∧ EsG w' (fun b => S b ∨ B0 ≤ b) 53 v' es ∧ RegT.Grow w w' := by
 obtain ⟨xs, hxs, hsrc⟩ := hx.src
 obtain ⟨v', w', hr, ho', hg⟩ := run_append_src (P := Try.prog) (ty := ty) helE (World.ownsRow_nil w B0 53 2) hsrc (by unfold maxLen; omega) (by omega) hB
 have hg' : RegT.Grow w w' := below_grown hg w.heap.size (Nat.le_refl _) (fun k e => by cases e)
 rw [List.nil_append, Nat.zero_add] at ho'
 exact ⟨_, w', hr, esg_of_own ho' (hxs.keeps hg'.block), hg'⟩
theorem termAt_lt {w : World} {S : Foot} {v : Value} {B T : Nat} {es : List Ent} (h : EsR w S v es) (hT : T < 2 ^ 64) (i : Nat) : (termAt B T es i).1 < 2 ^ 64 := by
 unfold termAt
 split
 · exact Nat.two_pow_pos 64
 · split
   · exact hT
   · rename_i h1 h2
     have hk : i - B - 1 < es.length := by omega
     obtain ⟨b, off, c, d, _, _, _, _, _, _, hlt⟩ := h.elemF (i - B - 1) hk
     show (es.getD (i - B - 1) (0, [])).1 < 2 ^ 64
     rw [getD_of_lt _ _ _ hk]; exact hlt
theorem RkAt.set0 {W : World} {S : Foot} {g B T : Nat} {v : Value} {es : List Ent} (h : RkAt W S g B T v es) {i : Nat} (hi : i + es.length < 2 ^ 64) : RkAt (W.setCell ⟨g, 0, none⟩ (.int .u64 (i : Int))) S g i T v es := by
 refine ⟨?_, h.foot, h.own.frame fun b hb => Below.heap_setCell _ _ _ _ (by simpa using hb.2), by omega, h.bT, hi⟩
 have hc := h.cells
 simp only [World.setCell, Array.getElem?_modify, hc, if_true, Option.map_some]
 rfl
theorem RkAt.set1 {W : World} {S : Foot} {g B T : Nat} {v : Value} {es : List Ent} (h : RkAt W S g B T v es) {i : Nat} (hi : i < 2 ^ 64) : RkAt (W.setCell ⟨g, 1, none⟩ (.int .u64 (i : Int))) S g B i v es := by
 refine ⟨?_, h.foot, h.own.frame fun b hb => Below.heap_setCell _ _ _ _ (by simpa using hb.2), h.bB, hi, h.fits⟩
 have hc := h.cells
 simp only [World.setCell, Array.getElem?_modify, hc, if_true, Option.map_some]
 rfl
theorem TkAt.set0 {W : World} {S : Foot} {g B T : Nat} {v : Value} {es : List Ent} (h : TkAt W S g B T v es) {i : Nat} (hi : i + es.length < 2 ^ 64) : TkAt (W.setCell ⟨g, 0, none⟩ (.int .u64 (i : Int))) S g i T v es := by
 refine ⟨?_, h.foot, h.own.frame fun b hb => Below.heap_setCell _ _ _ _ (by simpa using hb.2), by omega, h.bT, hi⟩
 have hc := h.cells
 simp only [World.setCell, Array.getElem?_modify, hc, if_true, Option.map_some]
 rfl
theorem TkAt.set1 {W : World} {S : Foot} {g B T : Nat} {v : Value} {es : List Ent} (h : TkAt W S g B T v es) {i : Nat} (hi : i < 2 ^ 64) : TkAt (W.setCell ⟨g, 1, none⟩ (.int .u64 (i : Int))) S g B i v es := by
 refine ⟨?_, h.foot, h.own.frame fun b hb => Below.heap_setCell _ _ _ _ (by simpa using hb.2), h.bB, hi, h.fits⟩
 have hc := h.cells
 simp only [World.setCell, Array.getElem?_modify, hc, if_true, Option.map_some]
 rfl
set_option maxRecDepth 100000 in
set_option maxHeartbeats 1600000 in
theorem pack_ok_w (S : Foot) (g B T i : Nat) (v : Value) (es : List Ent) (w : World) (h : TkAt w S g B T v es) (hi : mayI B es.length i = true) (hn : es.length ≤ 1000000) :
 Calls Try.prog 34 #[.pointer (some ⟨g, 0, none⟩), .int .u64 (i : Int)] w fun r w' => r = .returned (.int .i64 0) ∧ (∃ v', TkAt w' (fun b => S b ∨ w.heap.size ≤ b) g i (termAt B T es i).1 v' (es.drop (i - B))) ∧ Touch S w w' := by
 have Hlast := zh (may_w S g B T i v es w h)
 have H := zh (h.mono (S' := fun b => S b ∧ b < w.heap.size) fun b hb hs => ⟨hs, hb⟩)
 have HS := zh h.foot
 obtain ⟨p, c, rfl⟩ := h.own.form
 have hin : B ≤ i ∧ i ≤ B + es.length := by unfold mayI at hi; simpa using hi
 obtain ⟨n, hnn⟩ : ∃ n, n = i - B := ⟨_, rfl⟩
 rw [← hnn]
 have hfit := h.fits
 have hi64 : i < 2 ^ 64 := by omega
 have e1 : IntKind.u64.wrap ((i : Int) - (B : Int)) = (n : Int) := by rw [IntWalk.u64_in _ (by omega)]; omega
 have hnl : n ≤ es.length := by omega
 have hx0 := H.out.own.rd
 obtain ⟨q, d, hsl, hlo⟩ := slice_lo_es hx0 hnl
 have Hn := zh (And.intro hnl (show i + (es.length - n) < 2 ^ 64 by omega))
 have Hl6 := zh hn
 have Hlo := zh hlo
 have d1 : decide (i < B) = false := by simp; omega
 have d2 : decide (B + es.length < i) = false := by simp; omega
 have c0 := h.c0
 have Htm := zh (fun W (hW : TkAt W (fun b => S b ∧ b < w.heap.size) g B T (.slice p es.length c) es) => termat_w _ g B T _ es i W hW hn hi64)
 have htl := termAt_lt (B := B) (T := T) h.own.rd h.bT i
 generalize (termAt B T es i).2 = tb at *
 generalize (termAt B T es i).1 = t at *
 have Htl := zh htl
 unfold mayE at Hlast
 rw [hi] at Hlast
 simp only [if_true] at Hlast
 clear h hi hin hnn hfit hn htl hx0 hlo hnl
 go_enter Try.func34, Try.ntmps34
 go_wp2_with (first
  | (go_at_call 79; refine (Hlast.out).mono ?_; rintro r w1 ⟨rfl, hB⟩; have H1 := zh (H.out.keeps hB.block); have HB := zh hB; clear hB Hlast c0)
  | (go_at_call 28; refine (Htm.out _ H1.out).mono ?_; rintro r w2 ⟨rfl, hB⟩; have H2 := zh (H1.out.keeps hB.block); have HB2 := zh (HB.out.trans (hB.mono HB.out.size)); clear hB))
 have hsz2 : w.heap.size ≤ w2.heap.size := HB2.out.size
 have Hg0 := zh (fun (W : World) (hR : RegT.Grow w2.drew W) => (World.cell?_of_block (w := w2) (a := ⟨g, 0, none⟩) (hR.block g H2.out.lt)).trans H2.out.c0)
 have Hg1 := zh (fun (W : World) (hR : RegT.Grow w2.drew W) => (World.cell?_of_block (w := w2) (a := ⟨g, 1, none⟩) (hR.block g H2.out.lt)).trans H2.out.c1)
 have Hg2 := zh (fun (W : World) (hR : RegT.Grow w2.drew W) => (World.cell?_of_block (w := w2) (a := ⟨g, 2, none⟩) (hR.block g H2.out.lt)).trans H2.out.c2)
 apply RegT.wp_region_T rfl 43 15 rfl (by kernel_rfl) RegT.Grow RegT.Grow.refl RegT.Grow.trans
 · iterate 3
    apply RegT.T_pure rfl rfl rfl
    · intro W hR; go_simp; rfl
    simp only [List.set_cons_succ, List.set_cons_zero, Nat.reduceAdd]
   apply RegT.T_pure (v := .pointer (some ⟨g, 2, none⟩)) rfl rfl rfl
   · intro W hR; clear hR; go_simp
   simp only [List.set_cons_succ, List.set_cons_zero, Nat.reduceAdd]
   apply RegT.T_pure (v := .slice p es.length c) rfl rfl rfl
   · intro W hR
     have hc := Hg2.out W hR
     clear hR
     go_simp
   simp only [List.set_cons_succ, List.set_cons_zero, Nat.reduceAdd]
   iterate 3
    apply RegT.T_pure rfl rfl rfl
    · intro W hR; go_simp; rfl
    simp only [List.set_cons_succ, List.set_cons_zero, Nat.reduceAdd]
   apply RegT.T_pure (v := .pointer (some ⟨g, 0, none⟩)) rfl rfl rfl
   · intro W hR; clear hR; go_simp
   simp only [List.set_cons_succ, List.set_cons_zero, Nat.reduceAdd]
   apply RegT.T_pure (v := .int .u64 (B : Int)) rfl rfl rfl
   · intro W hR
     have hc := Hg0.out W hR
     clear hR
     go_simp
   simp only [List.set_cons_succ, List.set_cons_zero, Nat.reduceAdd]
   apply RegT.T_pure (v := .int .u64 (n : Int)) rfl rfl rfl
   · intro W hR; clear hR; go_simp
   simp only [List.set_cons_succ, List.set_cons_zero, Nat.reduceAdd]
   apply RegT.T_pure (v := .slice q (es.length - n) d) rfl rfl rfl
   · intro W hR; clear hR; go_simp
   simp only [List.set_cons_succ, List.set_cons_zero, Nat.reduceAdd]
   apply RegT.T_pred rfl rfl rfl (fun y W => EsG W (fun b => (S b ∨ w.heap.size ≤ b) ∧ b ≠ g) 53 y (es.drop n)) (fun _ _ h => h) (fun y x z hR h => h.keeps hR.block)
   · intro W hR hf
     have hx := (Hlo.out.keeps (Keeps.trans HB2.out.block ((Keeps.refl w2).drew.trans hR.block))).mono (S' := fun b => ((S b ∧ b < w.heap.size) ∧ b ≠ g) ∧ b < w2.heap.size) fun b _ hb => ⟨hb, by have := hb.1.2; omega⟩
     obtain ⟨v', w', hr, ho, hg⟩ := nil_ents (ty := 28) (B0 := w2.heap.size) hx (by have := Hl6.out; rw [List.length_drop]; omega) hR.size
     exact append_ok (.const (.slice none 0 0)) (.tmp 30) rfl rfl rfl hr ⟨ho.mono fun b _ hb => by
      rcases hb with hb | hb
      · exact ⟨.inl hb.1.1, hb.2⟩
      · have hgl := H2.out.lt
        exact ⟨.inr (by omega), by omega⟩, hg⟩
   intro vA
   simp only [List.set_cons_succ, List.set_cons_zero, Nat.reduceAdd]
   apply RegT.T_pure rfl rfl rfl
   · intro W hR; go_simp; rfl
   simp only [List.set_cons_succ, List.set_cons_zero, Nat.reduceAdd]
   apply RegT.T_pure (v := .pointer (some ⟨g, 2, none⟩)) rfl rfl rfl
   · intro W hR; clear hR; go_simp
   simp only [List.set_cons_succ, List.set_cons_zero, Nat.reduceAdd]
   refine RegT.T_tail (fun W hR hf => ?_)
   have hy : EsG W (fun b => (S b ∨ w.heap.size ≤ b) ∧ b ≠ g) 53 vA (es.drop n) := hf _ (.head _) (.inl rfl)
   obtain ⟨p8, n8, c8, rfl⟩ : ∃ p n c, vA = .slice p n c := by obtain ⟨p, c, e⟩ := hy.form; exact ⟨p, _, c, e⟩
   have HTW := zh (H2.out.keeps ((Keeps.refl w2).drew.trans hR.block))
   have hc2 := HTW.out.c2
   have hf2 := HTW.out.frozen 2
   have HP := zh (HTW.out.put (S' := fun b => S b ∨ w.heap.size ≤ b) (.inl HS.out) hy (by have := HTW.out.fits; rw [List.length_drop]; omega))
   have hc0 := HP.out.c0
   have hf0 := HP.out.frozen 0
   have HP0 := zh (HP.out.set0 (i := i) (by have := Hn.out.2; rw [List.length_drop]; omega))
   have hc1 := HP0.out.c1
   have hf1 := HP0.out.frozen 1
   have HP1 := zh (HP0.out.set1 (i := t) Htl.out)
   have HTo := zh (HB2.out.trans (((Below.refl w2.heap.size w2).drew.trans hR).mono HB2.out.size))
   clear hR hf hy
   simp only [List.drop_succ_cons, List.drop_zero]
   go_wp2
   go_ret
   refine ⟨rfl, ⟨_, HP1.out⟩, ?_⟩
   exact ((((Touch.of_below HTo.out).trans (Touch.of_grownBy (S := S) (Lib.grownBy_setCell W g 2 _) (fun b e => by cases e; exact HS.out)) (fun b _ e => e)).trans (Touch.of_grownBy (S := S) (Lib.grownBy_setCell _ g 0 _) (fun b e => by cases e; exact HS.out)) (fun b _ e => e)).trans (Touch.of_grownBy (S := S) (Lib.grownBy_setCell _ g 1 _) (fun b e => by cases e; exact HS.out)) (fun b _ e => e))
 · rfl
 · kernel_rfl
set_option maxRecDepth 100000 in
theorem base_w (S : Foot) (g B T : Nat) (v : Value) (es : List Ent) (w : World) (h : TkAt w S g B T v es) :
 Calls Try.prog 42 #[.pointer (some ⟨g, 0, none⟩)] w fun r w' => r = .returned (.tuple #[.int .u64 (B : Int), .int .u64 (T : Int)]) ∧ Below w.heap.size w w' := by
 have c0 := h.c0
 have c1 := h.c1
 clear h
 go_enter Try.func42, Try.ntmps42
 go_wp2
 go_quiet (fail)
 go_wp2
 go_ret2
 exact ⟨rfl, ⟨rfl, rfl, rfl, Nat.le_refl _, fun _ _ => rfl⟩⟩
def NewTk (B0 B T : Nat) (es : List Ent) (y : Value) (W : World) : Prop := ∃ N v', y = .pointer (some ⟨N, 0, none⟩) ∧ B0 ≤ N ∧ TkAt W (fun b => B0 ≤ b) N B T v' es
theorem NewTk.keeps {B0 B T : Nat} {es : List Ent} {y : Value} {W W' : World} (h : NewTk B0 B T es y W) (hk : Keeps W W') : NewTk B0 B T es y W' := by
 obtain ⟨N, v', e, hN, ht⟩ := h; exact ⟨N, v', e, hN, ht.keeps hk⟩
set_option maxRecDepth 100000 in
set_option maxHeartbeats 1600000 in
theorem copy_w (S : Foot) (g B T : Nat) (v : Value) (es : List Ent) (w : World) (h : TkAt w S g B T v es) (hn : es.length ≤ 1000000) (hl : ∀ e ∈ es, e.2.length ≤ 1000000) :
 Calls Try.prog 39 #[.pointer (some ⟨g, 0, none⟩)] w fun r w' => ∃ N v', r = .returned (.pointer (some ⟨N, 0, none⟩)) ∧ w.heap.size ≤ N ∧ TkAt w' (fun b => w.heap.size ≤ b) N B T v' es ∧ Below w.heap.size w w' := by
 have H := zh h
 have hfit := h.fits
 have Hnew := zh (fun W (hW : EsR W (fun b => S b ∧ b ≠ g) v es) => new_w _ B T v es W h.bB h.bT hW hn hl)
 rw [List.take_of_length_le (by omega)] at Hnew
 clear h hfit hn hl
 go_enter Try.func39, Try.ntmps39
 go_wp2
 have Hg0 := zh (fun (W : World) (hR : RegT.Grow w.drew W) => (World.cell?_of_block (w := w) (a := ⟨g, 0, none⟩) (hR.block g H.out.lt)).trans H.out.c0)
 have Hg1 := zh (fun (W : World) (hR : RegT.Grow w.drew W) => (World.cell?_of_block (w := w) (a := ⟨g, 1, none⟩) (hR.block g H.out.lt)).trans H.out.c1)
 have Hg2 := zh (fun (W : World) (hR : RegT.Grow w.drew W) => (World.cell?_of_block (w := w) (a := ⟨g, 2, none⟩) (hR.block g H.out.lt)).trans H.out.c2)
 apply RegT.wp_region_T rfl 18 13 rfl (by kernel_rfl) RegT.Grow RegT.Grow.refl RegT.Grow.trans
 · iterate 2
    apply RegT.T_pure rfl rfl rfl
    · intro W hR; go_simp; rfl
    simp only [List.set_cons_succ, List.set_cons_zero, Nat.reduceAdd]
   apply RegT.T_pure (v := .pointer (some ⟨g, 0, none⟩)) rfl rfl rfl
   · intro W hR; clear hR; go_simp
   simp only [List.set_cons_succ, List.set_cons_zero, Nat.reduceAdd]
   apply RegT.T_pure (v := .int .u64 (B : Int)) rfl rfl rfl
   · intro W hR
     have hc := Hg0.out W hR
     clear hR
     go_simp
   simp only [List.set_cons_succ, List.set_cons_zero, Nat.reduceAdd]
   iterate 2
    apply RegT.T_pure rfl rfl rfl
    · intro W hR; go_simp; rfl
    simp only [List.set_cons_succ, List.set_cons_zero, Nat.reduceAdd]
   apply RegT.T_pure (v := .pointer (some ⟨g, 1, none⟩)) rfl rfl rfl
   · intro W hR; clear hR; go_simp
   simp only [List.set_cons_succ, List.set_cons_zero, Nat.reduceAdd]
   apply RegT.T_pure (v := .int .u64 (T : Int)) rfl rfl rfl
   · intro W hR
     have hc := Hg1.out W hR
     clear hR
     go_simp
   simp only [List.set_cons_succ, List.set_cons_zero, Nat.reduceAdd]
   iterate 2
    apply RegT.T_pure rfl rfl rfl
    · intro W hR; go_simp; rfl
    simp only [List.set_cons_succ, List.set_cons_zero, Nat.reduceAdd]
   apply RegT.T_pure (v := .pointer (some ⟨g, 2, none⟩)) rfl rfl rfl
   · intro W hR; clear hR; go_simp
   simp only [List.set_cons_succ, List.set_cons_zero, Nat.reduceAdd]
   apply RegT.T_pure (v := v) rfl rfl rfl
   · intro W hR
     have hc := Hg2.out W hR
     clear hR
     go_simp
   simp only [List.set_cons_succ, List.set_cons_zero, Nat.reduceAdd]
   apply RegT.T_pred rfl rfl rfl (NewTk w.heap.size B T es) (fun _ _ h => h) (fun y x z hR h => h.keeps hR.block)
   · intro W hR hf
     have hsz : w.heap.size ≤ W.heap.size := hR.size
     have Hc := zh (Hnew.out W (H.out.own.rd.keeps ((Keeps.refl w).drew.trans hR.block)))
     clear hR hf
     go_simp
     exact RegT.OpOK_enter Hc.out (fun e w' ⟨he, ⟨v', ht⟩, hB⟩ => ⟨_, he, ⟨_, v', rfl, hsz, ht.mono fun b _ hb => Nat.le_trans hsz hb⟩, hB⟩)
   intro vA
   simp only [List.set_cons_succ, List.set_cons_zero, Nat.reduceAdd]
   refine RegT.T_tail (fun W hR hf => ?_)
   have hy : NewTk w.heap.size B T es vA W := hf _ (.head _) (.inl rfl)
   obtain ⟨N, v', rfl, hN, ht⟩ := hy
   have Hy := zh ht
   have HTo := zh (show Below w.heap.size w W from (Below.refl w.heap.size w).drew.trans hR)
   clear hR hf ht
   simp only [List.drop_succ_cons, List.drop_zero]
   go_wp2
   go_ret
   exact ⟨_, _, rfl, hN, Hy.out, HTo.out⟩
 · rfl
 · kernel_rfl
section
variable {ops : Array Oper} {rest : List Oper} {o : Oper} {a : Act} {w : World} {Q : Exit → Act → World → Prop}
end
end Go.Proofs.Yteellfgiejnigaa
