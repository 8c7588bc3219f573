/- L2: T0, T1, T2, T3, T4, T5, T6, T6b. -/
import Derived.Test.YteellfgiejnigaaQbL1
import Derived.Test.YteellfgiejnigaaRows
import Derived.Below
import Derived.BigQuiet
import Derived.Deep.MidRow
import Derived.Deep.QuietTactic
import Derived.Great.BuildSlice
import Derived.Laws.Cover3
import Derived.Lib.BufferOwn
import Derived.Lib.Hide
import Derived.LoopIn
import Derived.LoopNIn
import Derived.OpenShut
import Derived.OwnWalkIn
import Derived.ProofKit
import Derived.RangeFuncBound
import Derived.RangeFuncCalls
import Derived.RangeFuncLeaves
import Derived.RangeFuncNested
import Derived.Shelf.Abstract
import Derived.Shelf.RegionOpen
import Derived.TacticsInMore
import Derived.WalkKit
namespace Go.Proofs.Yteellfgiejnigaa
open Go.RowKit
set_option linter.unusedVariables false
abbrev Ent := Nat × List UInt8
abbrev Foot := Nat → Prop

/-- All that lay outside S lies as it lay. -/
structure Touch (S : Foot) (w w' : World) : Prop where
  os : w'.os = w.os
  tape : w'.tape = w.tape
  output : w'.output = w.output
  size : w.heap.size ≤ w'.heap.size
  block : ∀ b, b < w.heap.size → ¬ S b → w'.heap[b]? = w.heap[b]?
theorem Touch.refl (S : Foot) (w : World) : Touch S w w := ⟨rfl, rfl, rfl, Nat.le_refl _, fun _ _ _ => rfl⟩
theorem Touch.trans {S S1 : Foot} {w w1 w2 : World} (h : Touch S w w1) (k : Touch S1 w1 w2) (hs : ∀ b, b < w.heap.size → S1 b → S b) : Touch S w w2 :=
  ⟨k.os.trans h.os, k.tape.trans h.tape, k.output.trans h.output, Nat.le_trans h.size k.size, fun b hb hn => by
    rw [k.block b (Nat.lt_of_lt_of_le hb h.size) (fun e => hn (hs b hb e)), h.block b hb hn]⟩
theorem Touch.of_below {S : Foot} {w w' : World} (h : Below w.heap.size w w') : Touch S w w' := ⟨h.os, h.tape, h.output, h.size, fun b hb _ => h.block b hb⟩
theorem Touch.mono {S S' : Foot} {w w' : World} (h : Touch S w w') (hs : ∀ b, b < w.heap.size → S b → S' b) : Touch S' w w' := ⟨h.os, h.tape, h.output, h.size, fun b hb hn => h.block b hb fun e => hn (hs b hb e)⟩
theorem Touch.below {S : Foot} {w w' : World} {B : Nat} (h : Touch S w w') (hB : B ≤ w.heap.size) (hs : ∀ b, S b → B ≤ b) : Below B w w' :=
  ⟨h.os, h.tape, h.output, h.size, fun b hb => h.block b (by omega) fun e => by have := hs b e; omega⟩
theorem Touch.of_grownBy {S : Foot} {w w' : World} {row : Option Nat} (h : w.grownBy w' row) (hs : ∀ b, row = some b → S b) : Touch S w w' :=
  ⟨h.os, h.tape, h.output, h.size, fun b hb hn => h.block b hb fun e => hn (hs b e.symm)⟩
/-- What lies in S is as it was. -/
def SameOn (S : Foot) (w w' : World) : Prop := ∀ b, S b → w'.heap[b]? = w.heap[b]?
theorem SameOn.refl (S : Foot) (w : World) : SameOn S w w := fun _ _ => rfl
theorem SameOn.trans {S : Foot} {w w1 w2 : World} (h : SameOn S w w1) (k : SameOn S w1 w2) : SameOn S w w2 := fun b hb => (k b hb).trans (h b hb)
theorem Touch.same {S R : Foot} {w w' : World} (h : Touch S w w') (hR : ∀ b, R b → b < w.heap.size) (hd : ∀ b, R b → ¬ S b) : SameOn R w w' := fun b hb => h.block b (hR b hb) (hd b hb)
theorem Below.same {R : Foot} {w w' : World} {B : Nat} (h : Below B w w') (hR : ∀ b, R b → b < B) : SameOn R w w' := fun b hb => h.block b (hR b hb)
theorem SameOn.cell {S : Foot} {w w' : World} (h : SameOn S w w') {a : Addr} (ha : S a.block) : w'.cell? a = w.cell? a := World.cell?_of_block (h _ ha)

/-- The value reads as these bytes, and its row lies in S. -/
structure DatA (w : World) (S : Foot) (v : Value) (l : List UInt8) : Prop where
  rd : RdB w v l
  foot : ∀ g, v.ownBlock = some g → l ≠ [] → S g
  lt : ∀ g, v.ownBlock = some g → l ≠ [] → g < w.heap.size
  thaw : ∀ b off c, v = .slice (some ⟨b, off, none⟩) l.length c → ∀ i, i < l.length → w.frozen? ⟨b, off + i, none⟩ = false
theorem RdB.same {w w' : World} {v : Value} {l : List UInt8} (h : RdB w v l) (hs : ∀ g, v.ownBlock = some g → l ≠ [] → w'.heap[g]? = w.heap[g]?) : RdB w' v l := by
  obtain ⟨p, c, rfl, h1, h2, h3, h4⟩ := h
  refine ⟨p, c, rfl, h1, h2, h3, fun hl => ?_⟩
  obtain ⟨b, off, rfl, hc⟩ := h4 hl
  exact ⟨b, off, rfl, fun i hi => by rw [World.cell?_of_block (a := ⟨b, off + i, none⟩) (hs b rfl hl)]; exact hc i hi⟩
theorem lt_same {w w' : World} {b : Nat} (hb : b < w.heap.size) (hs : w'.heap[b]? = w.heap[b]?) : b < w'.heap.size := by
  rw [Array.getElem?_eq_getElem hb] at hs
  exact (Array.getElem?_eq_some_iff.1 hs).1
theorem thaw_frame {w w' : World} {v : Value} {l : List UInt8} (h : ∀ b off c, v = .slice (some ⟨b, off, none⟩) l.length c → ∀ i, i < l.length → w.frozen? ⟨b, off + i, none⟩ = false) (hs : ∀ g, v.ownBlock = some g → l ≠ [] → w'.heap[g]? = w.heap[g]?) :
    ∀ b off c, v = .slice (some ⟨b, off, none⟩) l.length c → ∀ i, i < l.length → w'.frozen? ⟨b, off + i, none⟩ = false := fun b off c e i hi => by
  rw [World.frozen?_of_block (w := w) (a := ⟨b, off + i, none⟩) (hs b (by rw [e]; rfl) (by rintro rfl; simp at hi))]
  exact h b off c e i hi
theorem DatA.frame {w w' : World} {S : Foot} {v : Value} {l : List UInt8} (h : DatA w S v l) (hs : SameOn S w w') : DatA w' S v l :=
  ⟨h.rd.same fun g e n => hs g (h.foot g e n), h.foot, fun g e n => lt_same (h.lt g e n) (hs g (h.foot g e n)), thaw_frame h.thaw fun g e n => hs g (h.foot g e n)⟩
theorem DatA.mono {w : World} {S S' : Foot} {v : Value} {l : List UInt8} (h : DatA w S v l) (hs : ∀ b, b < w.heap.size → S b → S' b) : DatA w S' v l := ⟨h.rd, fun g e n => hs g (h.lt g e n) (h.foot g e n), h.lt, h.thaw⟩
theorem DatA.keeps {w w' : World} {S : Foot} {v : Value} {l : List UInt8} (h : DatA w S v l) (hk : Keeps w w') : DatA w' S v l :=
  ⟨h.rd.keeps hk, h.foot, fun g e n => Nat.lt_of_lt_of_le (h.lt g e n) (keeps_lt hk), thaw_frame h.thaw fun g e n => hk g (h.lt g e n)⟩

/-- These cells are these entries. -/
inductive EsC (w : World) (S : Foot) : List Value → List Ent → Prop
  | nil : EsC w S [] []
  | cons {t : Nat} {d : Value} {l : List UInt8} {xs : List Value} {es : List Ent} (ht : t < 2 ^ 64) (hd : DatA w S d l) (h : EsC w S xs es) : EsC w S (.int .u64 (t : Int) :: d :: xs) ((t, l) :: es)
theorem EsC.len {w : World} {S : Foot} {xs : List Value} {es : List Ent} (h : EsC w S xs es) : xs.length = es.length * 2 := by
  induction h with
  | nil => rfl
  | cons ht hd h ih => simp only [List.length_cons, ih]; omega
theorem EsC.frame {w w' : World} {S : Foot} {xs : List Value} {es : List Ent} (h : EsC w S xs es) (hs : SameOn S w w') : EsC w' S xs es := by
  induction h with
  | nil => exact .nil
  | cons ht hd h ih => exact .cons ht (hd.frame hs) ih
theorem EsC.mono {w : World} {S S' : Foot} {xs : List Value} {es : List Ent} (h : EsC w S xs es) (hs : ∀ b, b < w.heap.size → S b → S' b) : EsC w S' xs es := by
  induction h with
  | nil => exact .nil
  | cons ht hd h ih => exact .cons ht (hd.mono hs) ih
theorem EsC.keeps {w w' : World} {S : Foot} {xs : List Value} {es : List Ent} (h : EsC w S xs es) (hk : Keeps w w') : EsC w' S xs es := by
  induction h with
  | nil => exact .nil
  | cons ht hd h ih => exact .cons ht (hd.keeps hk) ih
theorem EsC.append {w : World} {S : Foot} {xs ys : List Value} {es fs : List Ent} (h : EsC w S xs es) (k : EsC w S ys fs) : EsC w S (xs ++ ys) (es ++ fs) := by
  induction h with
  | nil => exact k
  | cons ht hd h ih => exact .cons ht hd ih
theorem EsC.at {w : World} {S : Foot} {xs : List Value} {es : List Ent} (h : EsC w S xs es) : ∀ (i : Nat) (hi : i < es.length), ∃ d, xs[i * 2]? = some (.int .u64 ((es[i].1 : Nat) : Int)) ∧ xs[i * 2 + 1]? = some d ∧ DatA w S d es[i].2 ∧ es[i].1 < 2 ^ 64 := by
  induction h with
  | nil => intro i hi; simp at hi
  | cons ht hd h ih =>
    intro i hi
    match i with
    | 0 => exact ⟨_, rfl, rfl, hd, ht⟩
    | i + 1 =>
      obtain ⟨d, h1, h2, h3, h4⟩ := ih i (by simpa using hi)
      refine ⟨d, ?_, ?_, h3, h4⟩
      · rw [show (i + 1) * 2 = i * 2 + 1 + 1 by omega]; simpa using h1
      · rw [show (i + 1) * 2 + 1 = i * 2 + 1 + 1 + 1 by omega]; simpa using h2
theorem EsC.take {w : World} {S : Foot} {xs : List Value} {es : List Ent} (h : EsC w S xs es) : ∀ n, EsC w S (xs.take (n * 2)) (es.take n) := by
  induction h with
  | nil => intro n; simp; exact .nil
  | cons ht hd h ih =>
    intro n
    match n with
    | 0 => simp; exact .nil
    | n + 1 => rw [show (n + 1) * 2 = n * 2 + 1 + 1 by omega]; exact .cons ht hd (ih n)
theorem EsC.drop {w : World} {S : Foot} {xs : List Value} {es : List Ent} (h : EsC w S xs es) : ∀ n, EsC w S (xs.drop (n * 2)) (es.drop n) := by
  induction h with
  | nil => intro n; simp; exact .nil
  | cons ht hd h ih =>
    intro n
    match n with
    | 0 => exact .cons ht hd h
    | n + 1 => rw [show (n + 1) * 2 = n * 2 + 1 + 1 by omega]; exact ih n
theorem EsC.one {w : World} {S : Foot} {xs : List Value} {es : List Ent} (h : EsC w S xs es) : ∀ u ∈ xs, u.oneCell' = true := by
  induction h with
  | nil => intro u hu; cases hu
  | cons ht hd h ih =>
    obtain ⟨p, c, hv, _⟩ := hd.rd
    intro u hu
    rcases List.mem_cons.1 hu with rfl | hu
    · rfl
    · rcases List.mem_cons.1 hu with rfl | hu
      · rw [hv]; rfl
      · exact ih u hu

/-- The value reads as these entries; their cells, and what these hold, lie in S. -/
def EsR (w : World) (S : Foot) (v : Value) (es : List Ent) : Prop :=
  ∃ p c xs, v = .slice p es.length c ∧ es.length ≤ c ∧ c ≤ maxLen ∧ (p = none → c = 0) ∧ EsC w S xs es ∧ (es ≠ [] → ∃ b off, p = some ⟨b, off, none⟩ ∧ S b ∧ b < w.heap.size ∧ ∀ j u, xs[j]? = some u → w.cell? ⟨b, off + j, none⟩ = some u)
theorem EsR.frame {w w' : World} {S : Foot} {v : Value} {es : List Ent} (h : EsR w S v es) (hs : SameOn S w w') : EsR w' S v es := by
  obtain ⟨p, c, xs, rfl, h1, h2, h3, h4, h5⟩ := h
  refine ⟨p, c, xs, rfl, h1, h2, h3, h4.frame hs, fun hl => ?_⟩
  obtain ⟨b, off, rfl, hb, hlt, hc⟩ := h5 hl
  exact ⟨b, off, rfl, hb, lt_same hlt (hs b hb), fun j u hu => by rw [World.cell?_of_block (a := ⟨b, off + j, none⟩) (hs b hb)]; exact hc j u hu⟩
theorem EsR.keeps {w w' : World} {S : Foot} {v : Value} {es : List Ent} (h : EsR w S v es) (hs : Keeps w w') : EsR w' S v es := by
  obtain ⟨p, c, xs, rfl, h1, h2, h3, h4, h5⟩ := h
  refine ⟨p, c, xs, rfl, h1, h2, h3, h4.keeps hs, fun hl => ?_⟩
  obtain ⟨b, off, rfl, hb, hlt, hc⟩ := h5 hl
  exact ⟨b, off, rfl, hb, Nat.lt_of_lt_of_le hlt (keeps_lt hs), fun j u hu => hs.cell (hc j u hu)⟩
theorem EsR.mono {w : World} {S S' : Foot} {v : Value} {es : List Ent} (h : EsR w S v es) (hs : ∀ b, b < w.heap.size → S b → S' b) : EsR w S' v es := by
  obtain ⟨p, c, xs, rfl, h1, h2, h3, h4, h5⟩ := h
  refine ⟨p, c, xs, rfl, h1, h2, h3, h4.mono hs, fun hl => ?_⟩
  obtain ⟨b, off, rfl, hb, hlt, hc⟩ := h5 hl
  exact ⟨b, off, rfl, hs b hlt hb, hlt, hc⟩
theorem EsR.nil (w : World) (S : Foot) : EsR w S (.slice none 0 0) [] := ⟨none, 0, [], rfl, Nat.le_refl _, by decide, fun _ => rfl, .nil, fun h => absurd rfl h⟩

/-- The value is a row of these entries that may be added to: what the entries hold lies elsewhere. -/
def EsG (w : World) (S : Foot) (e : TypeId) (v : Value) (es : List Ent) : Prop :=
  (v = .slice none 0 0 ∧ es = []) ∨
  ∃ g cap cur, v = .slice (some ⟨g, 0, none⟩) es.length cap ∧ S g ∧ w.heap[g]? = some (.cells cur e (0, 0)) ∧ es.length ≤ cap ∧ cap ≤ maxLen ∧ cap * 2 ≤ cur.size ∧ EsC w (fun b => S b ∧ b ≠ g) (cur.toList.take (es.length * 2)) es
theorem EsG.form {w : World} {S : Foot} {e : TypeId} {v : Value} {es : List Ent} (h : EsG w S e v es) : ∃ p c, v = .slice p es.length c := by
  rcases h with ⟨rfl, rfl⟩ | ⟨g, cap, cur, rfl, _⟩
  · exact ⟨none, 0, rfl⟩
  · exact ⟨_, _, rfl⟩
theorem EsG.frame {w w' : World} {S : Foot} {e : TypeId} {v : Value} {es : List Ent} (h : EsG w S e v es) (hs : SameOn S w w') : EsG w' S e v es := by
  rcases h with h | ⟨g, cap, cur, rfl, hg, hh, h1, h2, h3, h4⟩
  · exact .inl h
  · exact .inr ⟨g, cap, cur, rfl, hg, by rw [hs g hg]; exact hh, h1, h2, h3, h4.frame fun b hb => hs b hb.1⟩
theorem EsG.keeps {w w' : World} {S : Foot} {e : TypeId} {v : Value} {es : List Ent} (h : EsG w S e v es) (hs : Keeps w w') : EsG w' S e v es := by
  rcases h with h | ⟨g, cap, cur, rfl, hg, hh, h1, h2, h3, h4⟩
  · exact .inl h
  · exact .inr ⟨g, cap, cur, rfl, hg, by rw [hs g (Array.getElem?_eq_some_iff.1 hh).1]; exact hh, h1, h2, h3, h4.keeps hs⟩
theorem EsG.mono {w : World} {S S' : Foot} {e : TypeId} {v : Value} {es : List Ent} (h : EsG w S e v es) (hs : ∀ b, b < w.heap.size → S b → S' b) : EsG w S' e v es := by
  rcases h with h | ⟨g, cap, cur, rfl, hg, hh, h1, h2, h3, h4⟩
  · exact .inl h
  · exact .inr ⟨g, cap, cur, rfl, hs g (Array.getElem?_eq_some_iff.1 hh).1 hg, hh, h1, h2, h3, h4.mono fun b hlt hb => ⟨hs b hlt hb.1, hb.2⟩⟩
theorem EsG.rd {w : World} {S : Foot} {e : TypeId} {v : Value} {es : List Ent} (h : EsG w S e v es) : EsR w S v es := by
  rcases h with ⟨rfl, rfl⟩ | ⟨g, cap, cur, rfl, hg, hh, h1, h2, h3, h4⟩
  · exact EsR.nil w S
  · refine ⟨_, cap, _, rfl, h1, h2, (fun h => by cases h), h4.mono fun b _ hb => hb.1, fun _ => ⟨g, 0, rfl, hg, (Array.getElem?_eq_some_iff.1 hh).1, fun j u hu => ?_⟩⟩
    rw [cell_of_row _ _ _ _ _ _ hh, Nat.zero_add]
    rw [List.getElem?_take] at hu
    split at hu
    · simpa using hu
    · cases hu
theorem EsG.foot {w : World} {S : Foot} {e : TypeId} {v : Value} {es : List Ent} (h : EsG w S e v es) : ∀ g, v.ownBlock = some g → S g ∧ g < w.heap.size := by
  rcases h with ⟨rfl, rfl⟩ | ⟨g, cap, cur, rfl, hg, hh, _⟩
  · intro g e; cases e
  · intro g' e; cases e; exact ⟨hg, (Array.getElem?_eq_some_iff.1 hh).1⟩

/-- append of entries: in place, or in a new row. -/
theorem run_append_esg {P : Program} {w : World} {S S' : Foot} {t ty e : TypeId} {z : Value} {bytes : Nat} (he : Elem P t e z 2 bytes)
    {v : Value} {es : List Ent} (hown : EsG w S e v es) {p : Option Addr} {c : Nat} {ys : List Value} {fs : List Ent} (hys : EsC w (fun b => S' b ∧ v.ownBlock ≠ some b) ys fs)
    (hsrc : (p = none ∧ fs = [] ∧ c = 0) ∨ ∃ a, p = some a ∧ ∀ j u, ys[j]? = some u → w.cell? (a.add j) = some u)
    (h63 : es.length + fs.length ≤ maxLen) (hbytes : (es.length + fs.length) * bytes ≤ 140737488355328) (hS : ∀ b, S b → S' b) (hnew : S' w.heap.size) :
    ∃ v' w', (Builtin.append_ #[t, t] ty #[v, .slice p fs.length c]).run P w = .ok v' w' ∧ EsG w' S' e v' (es ++ fs) ∧ w.grownBy w' v.ownBlock ∧ (v'.ownBlock = v.ownBlock ∨ v'.ownBlock = some w.heap.size) ∧ EsG w' S e v es := by
  obtain ⟨i, hi, hz, hs, hb⟩ := info_parts he.info
  have hsmall : es.length + fs.length ≤ 9223372036854775807 := by simp only [maxLen] at h63; omega
  have hyl : ys.length = fs.length * i.size := by rw [hys.len, hs]
  have grown : ∀ (old : Nat) (xs : List Value), EsC w S xs es → old < es.length + fs.length → ∀ row : Option Nat,
      EsG (w.drew.alloc (.cells (xs.toArray ++ ys.toArray ++ Builtin.zeroCells z.cells (grownCap w (es.length + fs.length) old e - (es.length + fs.length))) e)) S' e
        (.slice (some ⟨w.heap.size, 0, none⟩) (es.length + fs.length) (grownCap w (es.length + fs.length) old e)) (es ++ fs) ∧
      w.grownBy (w.drew.alloc (.cells (xs.toArray ++ ys.toArray ++ Builtin.zeroCells z.cells (grownCap w (es.length + fs.length) old e - (es.length + fs.length))) e)) row := by
    intro old xs hxs ho row
    have hge := grownCap_ge w (es.length + fs.length) old e
    have hcm := grownCap_le_maxLen w (es.length + fs.length) old e h63
    have hk : Keeps w (w.drew.alloc (.cells (xs.toArray ++ ys.toArray ++ Builtin.zeroCells z.cells (grownCap w (es.length + fs.length) old e - (es.length + fs.length))) e)) := (Keeps.refl w).drew.alloc _
    have hall : EsC w (fun b => S' b ∧ b ≠ w.heap.size) (xs ++ ys) (es ++ fs) := (hxs.mono fun b hlt h => ⟨hS b h, by omega⟩).append (hys.mono fun b hlt h => ⟨h.1, by omega⟩)
    refine ⟨.inr ⟨w.heap.size, _, _, by rw [List.length_append], hnew, heap_alloc_new w.drew _, by rw [List.length_append]; exact hge, hcm, ?_, ?_⟩, ⟨rfl, rfl, rfl, by simp, fun k hk _ => Below.heap_alloc w.drew _ k hk⟩⟩
    · simp only [Array.size_append, List.size_toArray, size_zeroCells, he.zs, hxs.len, hys.len, ← Nat.add_mul]
      refine Nat.le_of_eq ?_
      congr 1
      omega
    · have e1 : (xs.toArray ++ ys.toArray ++ Builtin.zeroCells z.cells (grownCap w (es.length + fs.length) old e - (es.length + fs.length))).toList.take ((es ++ fs).length * 2) = xs ++ ys := by
        simp only [Array.toList_append]
        have : (es ++ fs).length * 2 = (xs ++ ys).length := by rw [List.length_append, List.length_append, hxs.len, hys.len, Nat.add_mul]
        rw [this]
        exact List.take_left
      rw [e1]
      exact hall.keeps hk
  rcases hown with ⟨rfl, rfl⟩ | ⟨g, cap, cur, rfl, hSg, hg, hnc, hcm, hcs, hxs⟩
  · rcases hsrc with ⟨rfl, rfl, rfl⟩ | ⟨a, rfl, hnews⟩
    · refine ⟨.slice none 0 0, w, ?_, .inl ⟨rfl, rfl⟩, World.grownBy.refl _ _, .inl rfl, .inl ⟨rfl, rfl⟩⟩
      simp [Builtin.append_, run_underlying he.sl, sizeOf, typeInfo, hi, Builtin.lenOf, Builtin.firstCells]
    · by_cases hm : fs.length = 0
      · have hf : fs = [] := List.eq_nil_of_length_eq_zero hm
        subst hf
        refine ⟨.slice none 0 0, w, ?_, .inl ⟨rfl, rfl⟩, World.grownBy.refl _ _, .inl rfl, .inl ⟨rfl, rfl⟩⟩
        simp [Builtin.append_, run_underlying he.sl, sizeOf, typeInfo, hi, Builtin.lenOf, Builtin.firstCells, loadCells, loadCellsFrom]
      · have hr := run_append_nil (P := P) w t ty e i z he.sl hi hz a fs.length c ys hyl hnews (by omega) (by simp at hsmall; omega) (by have hb2 := hbytes; rw [← hb] at hb2; simp only [List.length_nil, Nat.zero_add] at hb2; omega)
        have hgr := grown 0 [] .nil (by simp; omega) (Value.ownBlock (.slice none 0 0))
        simp only [List.length_nil, Nat.zero_add, List.nil_append, Array.empty_append] at hgr ⊢
        exact ⟨_, _, hr, hgr.1, hgr.2, .inr rfl, .inl ⟨rfl, rfl⟩⟩
  · have hold : EsG w S e (.slice (some ⟨g, 0, none⟩) es.length cap) es := .inr ⟨g, cap, cur, rfl, hSg, hg, hnc, hcm, hcs, hxs⟩
    have hxl : (cur.toList.take (es.length * 2)).length = es.length * 2 := hxs.len
    rcases hsrc with ⟨rfl, rfl, rfl⟩ | ⟨a, rfl, hnews⟩
    · refine ⟨.slice (some ⟨g, 0, none⟩) es.length cap, w, ?_, ?_, World.grownBy.refl _ _, .inl rfl, hold⟩
      · simp [Builtin.append_, run_underlying he.sl, sizeOf, typeInfo, hi, Builtin.lenOf, Builtin.firstCells, hnc, storeCells]
      · rw [List.append_nil]
        exact .inr ⟨g, cap, cur, rfl, hS g hSg, hg, hnc, hcm, hcs, hxs.mono fun b _ h => ⟨hS b h.1, h.2⟩⟩
    · by_cases hroom : es.length + fs.length ≤ cap
      · have hfit : es.length * i.size + ys.length ≤ cur.size := by rw [hyl, hs, ← Nat.add_mul]; exact Nat.le_trans (Nat.mul_le_mul_right _ hroom) hcs
        have hr := run_append_room (P := P) w t ty e i he.sl hi g es.length cap cur hg a fs.length c ys hyl hnews hys.one hroom hfit
        refine ⟨_, _, hr, .inr ⟨g, cap, _, by rw [List.length_append], hS g hSg, setRow_heap w g cur _ e _ hg, by rw [List.length_append]; exact hroom, hcm, ?_, ?_⟩, ⟨rfl, rfl, rfl, by simp, fun k _ hk => setRow_other w g k _ (fun e => hk (by simp [Value.ownBlock, e]))⟩, .inl rfl, .inr ⟨g, cap, _, rfl, hSg, setRow_heap w g cur _ e _ hg, hnc, hcm, ?_, ?_⟩⟩
        · simp only [List.size_toArray, List.length_append, List.length_take, List.length_drop, Array.length_toList]
          omega
        · have e1 : (cur.toList.take (es.length * i.size) ++ ys ++ cur.toList.drop (es.length * i.size + ys.length)).toArray.toList.take ((es ++ fs).length * 2) = cur.toList.take (es.length * 2) ++ ys := by
            rw [hs]
            have : (es ++ fs).length * 2 = (cur.toList.take (es.length * 2) ++ ys).length := by rw [List.length_append, List.length_append, hxl, hys.len, Nat.add_mul]
            simp only []
            rw [this]
            exact List.take_left
          rw [e1]
          have hsm : ∀ b, b ≠ g → (w.setRow g (cur.toList.take (es.length * i.size) ++ ys ++ cur.toList.drop (es.length * i.size + ys.length)).toArray).heap[b]? = w.heap[b]? := fun b hb => setRow_other w g b _ hb
          have k1 : EsC w (fun b => S' b ∧ b ≠ g) (cur.toList.take (es.length * 2)) es := hxs.mono fun b _ h => ⟨hS b h.1, h.2⟩
          have k2 : EsC w (fun b => S' b ∧ b ≠ g) ys fs := hys.mono fun b _ h => ⟨h.1, fun e => h.2 (by simp [Value.ownBlock, e])⟩
          exact (k1.append k2).frame fun b hb => hsm b hb.2
        · simp only [List.size_toArray, List.length_append, List.length_take, List.length_drop, Array.length_toList]
          omega
        · have e1 : (cur.toList.take (es.length * i.size) ++ ys ++ cur.toList.drop (es.length * i.size + ys.length)).toArray.toList.take (es.length * 2) = cur.toList.take (es.length * 2) := by
            simp only []
            rw [hs, List.append_assoc, List.take_append_of_le_length (by rw [hxl]; exact Nat.le_refl _), List.take_of_length_le (by rw [hxl]; exact Nat.le_refl _)]
          rw [e1]
          exact hxs.frame fun b hb => setRow_other w g b _ hb.2
      · have hr := run_append_grow (P := P) w t ty e i z he.sl hi hz ⟨g, 0, none⟩ es.length cap (cur.toList.take (es.length * 2)) (by rw [hxl, hs]) (fun j u hu => ?_) a fs.length c ys hyl hnews (by omega) (by omega) (growslice_fits (by omega) (by rw [hb]; exact hbytes))
        · have hgr := grown cap _ (hxs.mono fun b _ h => h.1) (by omega) (Value.ownBlock (.slice (some ⟨g, 0, none⟩) es.length cap))
          exact ⟨_, _, hr, hgr.1, hgr.2, .inr rfl, hold.keeps ((Keeps.refl w).drew.alloc _)⟩
        · rw [Addr.add_lit, cell_of_row _ _ _ _ _ _ hg, Nat.zero_add]
          rw [List.getElem?_take] at hu
          split at hu
          · simpa using hu
          · cases hu
end Go.Proofs.Yteellfgiejnigaa
/- Tracks as they lie; walks of bytes.Clone, copied and last. -/
namespace Go.Proofs.Yteellfgiejnigaa
open Go.ChangeShapes Go.WideShapes Go.ChangeAt Go.RowKit
set_option linter.unusedVariables false
theorem hel : Elem Try.prog 29 5 (.int .u8 0) 1 1 := ⟨Try.underlying29, by kernel_rfl, rfl, by decide⟩
def zEnt : Value := .agg #[.int .u64 0, .slice none 0 0]
theorem helE : Elem Try.prog 28 53 zEnt 2 32 := ⟨Try.underlying28, by kernel_rfl, rfl, by decide⟩
theorem hz53 : ((Try.prog.info? 53).bind (·.zero)).map Value.cells = some #[.int .u64 0, .slice none 0 0] := by kernel_rfl

/-- An entry lies at block N. -/
def EntAt (w : World) (N : Nat) (t : Nat) (d : Value) : Prop := w.heap[N]? = some (.cells #[.int .u64 (t : Int), d] 53)
theorem EntAt.new (w : World) (t : Nat) (d : Value) : EntAt (w.alloc (.cells #[.int .u64 (t : Int), d] 53)) w.heap.size t d := heap_alloc_new w _
theorem EntAt.lt {w : World} {N t : Nat} {d : Value} (h : EntAt w N t d) : N < w.heap.size := (Array.getElem?_eq_some_iff.1 h).1
theorem EntAt.keeps {w w' : World} {N t : Nat} {d : Value} (h : EntAt w N t d) (hk : Keeps w w') : EntAt w' N t d := by unfold EntAt; rw [hk N h.lt]; exact h
theorem EntAt.frozen {w : World} {N t : Nat} {d : Value} (h : EntAt w N t d) (k : Nat) : w.frozen? ⟨N, k, none⟩ = false := by
  unfold EntAt at h
  simp [World.frozen?, h]
theorem ent_one (t : Nat) (p : Option Addr) (n c : Nat) : (#[Value.int .u64 (t : Int), .slice p n c]).all (·.oneCell') = true := by simp [Value.oneCell']

end Go.Proofs.Yteellfgiejnigaa
/- A track as it lies; walks of last, Add and New. -/
namespace Go.Proofs.Yteellfgiejnigaa
open Go.ChangeShapes Go.WideShapes Go.ChangeAt Go.RowKit
set_option linter.unusedVariables false
structure TkAt (w : World) (S : Foot) (g B T : Nat) (v : Value) (es : List Ent) : Prop where
  cells : w.heap[g]? = some (.cells #[.int .u64 (B : Int), .int .u64 (T : Int), v] 67)
  foot : S g
  own : EsG w (fun b => S b ∧ b ≠ g) 53 v es
  bB : B < 2 ^ 64
  bT : T < 2 ^ 64
  fits : B + es.length < 2 ^ 64
theorem TkAt.lt {w : World} {S : Foot} {g B T : Nat} {v : Value} {es : List Ent} (h : TkAt w S g B T v es) : g < w.heap.size := (Array.getElem?_eq_some_iff.1 h.cells).1
theorem TkAt.frame {w w' : World} {S : Foot} {g B T : Nat} {v : Value} {es : List Ent} (h : TkAt w S g B T v es) (hs : SameOn S w w') : TkAt w' S g B T v es :=
  ⟨by rw [hs g h.foot]; exact h.cells, h.foot, h.own.frame fun b hb => hs b hb.1, h.bB, h.bT, h.fits⟩
theorem TkAt.keeps {w w' : World} {S : Foot} {g B T : Nat} {v : Value} {es : List Ent} (h : TkAt w S g B T v es) (hk : Keeps w w') : TkAt w' S g B T v es :=
  ⟨by rw [hk g h.lt]; exact h.cells, h.foot, h.own.keeps hk, h.bB, h.bT, h.fits⟩
theorem TkAt.mono {w : World} {S S' : Foot} {g B T : Nat} {v : Value} {es : List Ent} (h : TkAt w S g B T v es) (hs : ∀ b, b < w.heap.size → S b → S' b) : TkAt w S' g B T v es :=
  ⟨h.cells, hs g h.lt h.foot, h.own.mono fun b hlt hb => ⟨hs b hlt hb.1, hb.2⟩, h.bB, h.bT, h.fits⟩
theorem TkAt.c0 {w : World} {S : Foot} {g B T : Nat} {v : Value} {es : List Ent} (h : TkAt w S g B T v es) : w.cell? ⟨g, 0, none⟩ = some (.int .u64 (B : Int)) := by rw [cell_of_row _ _ _ _ _ _ h.cells]; rfl
theorem TkAt.c1 {w : World} {S : Foot} {g B T : Nat} {v : Value} {es : List Ent} (h : TkAt w S g B T v es) : w.cell? ⟨g, 1, none⟩ = some (.int .u64 (T : Int)) := by rw [cell_of_row _ _ _ _ _ _ h.cells]; rfl
theorem TkAt.c2 {w : World} {S : Foot} {g B T : Nat} {v : Value} {es : List Ent} (h : TkAt w S g B T v es) : w.cell? ⟨g, 2, none⟩ = some v := by rw [cell_of_row _ _ _ _ _ _ h.cells]; rfl
theorem TkAt.frozen {w : World} {S : Foot} {g B T : Nat} {v : Value} {es : List Ent} (h : TkAt w S g B T v es) (k : Nat) : w.frozen? ⟨g, k, none⟩ = false := by
  have h := h.cells
  simp [World.frozen?, h]

theorem append_ok {P : Program} {w w' : World} {t : TypeId} {v x v' : Value} {post : Value → World → Prop} {o : Oper} {ρ : Operand → Value} (s y : Operand)
    (ho : o.op = .call { callee := .builtin .append, args := #[s, y], argTypes := #[t, t] }) (hs : ρ s = v) (hy : ρ y = x) (hr : (Builtin.append_ #[t, t] o.type #[v, x]).run P w = .ok v' w') (hp : post v' w') : RegT.OpOK P ((execOp ρ o).run P w) post := by
  unfold execOp
  simp only [ho, resolve, invoke, builtin, Sem.run_bind, Sem.run_pure, Result.andThen_ok, List.map_toArray, List.map_cons, List.map_nil, hs, hy, hr]
  exact hp

/-- An element of a row of entries that is read. -/
theorem EsR.elem {w : World} {S : Foot} {v : Value} {es : List Ent} (h : EsR w S v es) (k : Nat) (hk : k < es.length) : ∃ b off n c d, v = .slice (some ⟨b, off, none⟩) n c ∧ es.length = n ∧
    w.rangeAt b (off + k * 2) [.int .u64 ((es[k].1 : Nat) : Int), d] ∧ DatA w S d es[k].2 ∧ es[k].1 < 2 ^ 64 := by
  obtain ⟨p, c, xs, rfl, h1, h2, h3, h4, h5⟩ := h
  obtain ⟨b, off, rfl, hb, hlt, hc⟩ := h5 (by intro e; subst e; simp at hk)
  obtain ⟨d, q1, q2, q3, q4⟩ := h4.at k hk
  refine ⟨b, off, _, c, d, rfl, rfl, ?_, q3, q4⟩
  intro j u hu
  match j, hu with
  | 0, hu => cases hu; exact hc _ _ q1
  | 1, hu => cases hu; rw [Nat.add_assoc]; exact hc _ _ q2
  | j + 2, hu => simp at hu
theorem stored53 (W1 : World) (t : Nat) (d : Value) : ∃ W2, Hid ((W1.alloc (.cells #[.int .u64 0, .slice none 0 0] 53)).setRow W1.heap.size #[.int .u64 (t : Int), d] = W2) ∧ EntAt W2 W1.heap.size t d ∧ Below W1.heap.size W1 W2 := by
  refine ⟨_, Lib.hid rfl, setRow_heap _ _ _ _ _ _ (heap_alloc_new W1 _), ⟨rfl, rfl, rfl, by simp [World.setRow], fun k hk => by rw [setRow_other _ _ _ _ (by omega), Below.heap_alloc W1 _ k hk]⟩⟩
theorem TkAt.put {W : World} {S S' : Foot} {g B T : Nat} {v y : Value} {es fs : List Ent} (h : TkAt W S g B T v es) (hg : S' g) (ho : EsG W (fun b => S' b ∧ b ≠ g) 53 y fs) (hf : B + fs.length < 2 ^ 64) : TkAt (W.setCell ⟨g, 2, none⟩ y) S' g B T y fs := by
  refine ⟨?_, hg, ho.frame fun b hb => Below.heap_setCell _ _ _ _ (by simpa using hb.2), h.bB, h.bT, hf⟩
  have hc := h.cells
  simp only [World.setCell, Array.getElem?_modify, hc, if_true, Option.map_some]
  rfl
end Go.Proofs.Yteellfgiejnigaa
/- The walk of Add. -/
namespace Go.Proofs.Yteellfgiejnigaa
open Go.ChangeShapes Go.WideShapes Go.ChangeAt Go.RowKit
set_option linter.unusedVariables false
def RegR (u : Value) (S0 : Foot) (B0 : Nat) (es : List Ent) (x y : World) : Prop := Touch (fun b => u.ownBlock = some b ∨ B0 ≤ b) x y ∧ (EsG x S0 53 u es → EsG y S0 53 u es)
theorem RegR.refl (u : Value) (S0 : Foot) (B0 : Nat) (es : List Ent) (x : World) : RegR u S0 B0 es x x := ⟨Touch.refl _ _, id⟩
theorem RegR.trans (u : Value) (S0 : Foot) (B0 : Nat) (es : List Ent) (x y z : World) (h : RegR u S0 B0 es x y) (k : RegR u S0 B0 es y z) : RegR u S0 B0 es x z := ⟨h.1.trans k.1 fun _ _ e => e, fun e => k.2 (h.2 e)⟩
theorem RegR.grow (u : Value) (S0 : Foot) (B0 : Nat) (es : List Ent) (x y : World) (h : RegT.Grow x y) : RegR u S0 B0 es x y := ⟨Touch.of_below h, fun e => e.keeps h.block⟩
theorem ent_cells {W : World} {N t : Nat} {d : Value} (h : EntAt W N t d) : ∀ j u, [Value.int .u64 (t : Int), d][j]? = some u → W.cell? ((⟨N, 0, none⟩ : Addr).add j) = some u := by
  intro j u hu
  rw [Addr.add_lit, cell_of_row _ _ _ _ _ _ h, Nat.zero_add]
  simpa using hu
/-- A copy of an entry, in memory from block B0 on. -/
def CopyOf (t : Nat) (l : List UInt8) (B0 : Nat) (y : Value) (W : World) : Prop := ∃ p c, y = .agg #[.int .u64 (t : Int), .slice p l.length c] ∧ DatA W (fun b => B0 ≤ b) (.slice p l.length c) l
theorem CopyOf.keeps {t : Nat} {l : List UInt8} {B0 : Nat} {y : Value} {W W' : World} (h : CopyOf t l B0 y W) (hk : Keeps W W') : CopyOf t l B0 y W' := by
  obtain ⟨p, c, rfl, hd⟩ := h; exact ⟨p, c, rfl, hd.keeps hk⟩
/-- A row of one such copy. -/
def RowOf (t : Nat) (l : List UInt8) (B0 : Nat) (y : Value) (W : World) : Prop := ∃ N p c, y = .slice (some ⟨N, 0, none⟩) 1 1 ∧ EntAt W N t (.slice p l.length c) ∧ DatA W (fun b => B0 ≤ b) (.slice p l.length c) l
theorem RowOf.keeps {t : Nat} {l : List UInt8} {B0 : Nat} {y : Value} {W W' : World} (h : RowOf t l B0 y W) (hk : Keeps W W') : RowOf t l B0 y W' := by
  obtain ⟨N, p, c, rfl, he, hd⟩ := h; exact ⟨N, p, c, rfl, he.keeps hk, hd.keeps hk⟩

end Go.Proofs.Yteellfgiejnigaa
/- Walks of New, Tip and TermAt. -/
namespace Go.Proofs.Yteellfgiejnigaa
open Go.ChangeShapes Go.WideShapes Go.ChangeAt Go.RowKit
set_option linter.unusedVariables false
theorem EsR.term {w : World} {S : Foot} {v : Value} {es : List Ent} (h : EsR w S v es) (k : Nat) (hk : k < es.length) : ∃ b off c, v = .slice (some ⟨b, off, none⟩) es.length c ∧ w.cell? ⟨b, off + k * 2, none⟩ = some (.int .u64 ((es[k].1 : Nat) : Int)) := by
  obtain ⟨b, off, n, c, d, h1, h2, h3, _, _⟩ := h.elem k hk
  subst h2
  exact ⟨b, off, c, h1, by simpa using h3 0 _ rfl⟩

end Go.Proofs.Yteellfgiejnigaa
/- A range over a function that keeps a number of its own in a cell: the loop's law. The rounds are counted; what the caller knows must bear that the cell is written. -/
namespace Go.Proofs.Yteellfgiejnigaa
open Go.ChangeShapes Go.WideShapes Go.ChangeAt Go.RowKit
set_option linter.unusedVariables false
/-- The loop's own two blocks are as they were. -/
def Recs (B : Nat) (W W' : World) : Prop := W'.heap[B]? = W.heap[B]? ∧ W'.heap[B + 1]? = W.heap[B + 1]?
theorem Recs.refl (B : Nat) (W : World) : Recs B W W := ⟨rfl, rfl⟩
theorem Recs.trans {B : Nat} {W W1 W2 : World} (h : Recs B W W1) (k : Recs B W1 W2) : Recs B W W2 := ⟨k.1.trans h.1, k.2.trans h.2⟩
theorem Recs.keeps {B : Nat} {W W' : World} (h : Keeps W W') (hB : B + 1 < W.heap.size) : Recs B W W' := ⟨h B (by omega), h (B + 1) hB⟩

end Go.Proofs.Yteellfgiejnigaa
/- Walks of placed, and of the function that it makes. -/
namespace Go.Proofs.Yteellfgiejnigaa
open Go.ChangeShapes Go.WideShapes Go.ChangeAt Go.RowKit
set_option linter.unusedVariables false
attribute [local go_sem] Oper.semAt_some
/-- The two blocks that the iterator reads. -/
def PlAt (w : World) (Bp Bl prev : Nat) (sv : Value) : Prop := w.heap[Bp]? = some (.cells #[.int .u64 (prev : Int)] 22) ∧ w.heap[Bl]? = some (.cells #[sv] 28)
theorem PlAt.put {w : World} {Bp Bl prev : Nat} {sv : Value} (h : PlAt w Bp Bl prev sv) (hne : Bp ≠ Bl) (m : Nat) : PlAt (w.setCell ⟨Bp, 0, none⟩ (.int .u64 (m : Int))) Bp Bl m sv := by
  obtain ⟨h1, h2⟩ := h
  refine ⟨?_, by rw [Below.heap_setCell _ _ _ _ (by simpa using Ne.symm hne)]; exact h2⟩
  simp only [World.setCell, Array.getElem?_modify, h1, if_true, Option.map_some]
  rfl
theorem PlAt.cl {w : World} {Bp Bl prev : Nat} {sv : Value} (h : PlAt w Bp Bl prev sv) : w.cell? ⟨Bl, 0, none⟩ = some sv := by rw [cell_of_row _ _ _ _ _ _ h.2]; rfl
theorem PlAt.same {w w' : World} {Bp Bl prev : Nat} {sv : Value} (h : PlAt w Bp Bl prev sv) (hs : SameOn (fun b => b = Bp ∨ b = Bl) w w') : PlAt w' Bp Bl prev sv := ⟨(hs Bp (.inl rfl)).trans h.1, (hs Bl (.inr rfl)).trans h.2⟩

end Go.Proofs.Yteellfgiejnigaa
/- Operations inside a round: by what they come to. -/
namespace Go.Proofs.Yteellfgiejnigaa
open Go.ChangeShapes Go.WideShapes Go.ChangeAt Go.RowKit
set_option linter.unusedVariables false
section
variable {F : Fence} {n : Nat} {P : Program} {ops : Array Oper} {rest : List Oper} {o : Oper} {a : Act} {w : World} {Q : Exit → Act → World → Prop}
end
end Go.Proofs.Yteellfgiejnigaa
