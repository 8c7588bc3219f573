/- RaftSafe: L2. -/
import Derived.Test.YteellfgiejnigaaQtA00
import Derived.Test.YteellfgiejnigaaRows
import Derived.Below
import Derived.BigQuiet
import Derived.Deep.MidRow
import Derived.Deep.QuietTactic
import Derived.Great.BuildSlice
import Derived.Laws.Cover3
import Derived.Lib.BufferOwn
import Derived.Lib.Hide
import Derived.LoopIn
import Derived.LoopNIn
import Derived.OpenShut
import Derived.OwnWalkIn
import Derived.ProofKit
import Derived.RangeFuncBound
import Derived.RangeFuncCalls
import Derived.RangeFuncLeaves
import Derived.RangeFuncNested
import Derived.Shelf.Abstract
import Derived.Shelf.RegionOpen
import Derived.TacticsInMore
import Derived.WalkKit
namespace Go.Proofs.Yteellfgiejnigaa
open Go.RowKit
set_option linter.unusedVariables false
abbrev Ent := Nat × List UInt8
abbrev Foot := Nat → Prop
structure Touch (S : Foot) (w w' : World) : Prop where
 os : w'.os = w.os
 tape : w'.tape = w.tape
 output : w'.output = w.output
 size : w.heap.size ≤ w'.heap.size
 block : ∀ b, b < w.heap.size → ¬ S b → w'.heap[b]? = w.heap[b]?
theorem Touch.refl (S : Foot) (w : World) : Touch S w w := ⟨rfl, rfl, rfl, Nat.le_refl _, fun _ _ _ => rfl⟩
theorem Touch.trans {S S1 : Foot} {w w1 w2 : World} (h : Touch S w w1) (k : Touch S1 w1 w2) (hs : ∀ b, b < w.heap.size → S1 b → S b) : Touch S w w2 :=
 ⟨k.os.trans h.os, k.tape.trans h.tape, k.output.trans h.output, Nat.le_trans h.size k.size, fun b hb hn => by
  rw [k.block b (Nat.lt_of_lt_of_le hb h.size) (fun e => hn (hs b hb e)), h.block b hb hn]⟩
theorem Touch.of_below {S : Foot} {w w' : World} (h : Below w.heap.size w w') : Touch S w w' := ⟨h.os, h.tape, h.output, h.size, fun b hb _ => h.block b hb⟩
theorem Touch.mono {S S' : Foot} {w w' : World} (h : Touch S w w') (hs : ∀ b, b < w.heap.size → S b → S' b) : Touch S' w w' := ⟨h.os, h.tape, h.output, h.size, fun b hb hn => h.block b hb fun e => hn (hs b hb e)⟩
theorem Touch.below {S : Foot} {w w' : World} {B : Nat} (h : Touch S w w') (hB : B ≤ w.heap.size) (hs : ∀ b, S b → B ≤ b) : Below B w w' :=
 ⟨h.os, h.tape, h.output, h.size, fun b hb => h.block b (by omega) fun e => by have := hs b e; omega⟩
theorem Touch.of_grownBy {S : Foot} {w w' : World} {row : Option Nat} (h : w.grownBy w' row) (hs : ∀ b, row = some b → S b) : Touch S w w' :=
 ⟨h.os, h.tape, h.output, h.size, fun b hb hn => h.block b hb fun e => hn (hs b e.symm)⟩
def SameOn (S : Foot) (w w' : World) : Prop := ∀ b, S b → w'.heap[b]? = w.heap[b]?
theorem SameOn.refl (S : Foot) (w : World) : SameOn S w w := fun _ _ => rfl
theorem SameOn.trans {S : Foot} {w w1 w2 : World} (h : SameOn S w w1) (k : SameOn S w1 w2) : SameOn S w w2 := fun b hb => (k b hb).trans (h b hb)
theorem Touch.same {S R : Foot} {w w' : World} (h : Touch S w w') (hR : ∀ b, R b → b < w.heap.size) (hd : ∀ b, R b → ¬ S b) : SameOn R w w' := fun b hb => h.block b (hR b hb) (hd b hb)
theorem Below.same {R : Foot} {w w' : World} {B : Nat} (h : Below B w w') (hR : ∀ b, R b → b < B) : SameOn R w w' := fun b hb => h.block b (hR b hb)
theorem SameOn.cell {S : Foot} {w w' : World} (h : SameOn S w w') {a : Addr} (ha : S a.block) : w'.cell? a = w.cell? a := World.cell?_of_block (h _ ha)
structure DatA (w : World) (S : Foot) (v : Value) (l : List UInt8) : Prop where
 rd : RdB w v l
 foot : ∀ g, v.ownBlock = some g → l ≠ [] → S g
 lt : ∀ g, v.ownBlock = some g → l ≠ [] → g < w.heap.size
 thaw : ∀ b off c, v = .slice (some ⟨b, off, none⟩) l.length c → ∀ i, i < l.length → w.frozen? ⟨b, off + i, none⟩ = false
theorem RdB.same {w w' : World} {v : Value} {l : List UInt8} (h : RdB w v l) (hs : ∀ g, v.ownBlock = some g → l ≠ [] → w'.heap[g]? = w.heap[g]?) : RdB w' v l := by
 obtain ⟨p, c, rfl, h1, h2, h3, h4⟩ := h
 refine ⟨p, c, rfl, h1, h2, h3, fun hl => ?_⟩
 obtain ⟨b, off, rfl, hc⟩ := h4 hl
 exact ⟨b, off, rfl, fun i hi => by rw [World.cell?_of_block (a := ⟨b, off + i, none⟩) (hs b rfl hl)]; exact hc i hi⟩
theorem lt_same {w w' : World} {b : Nat} (hb : b < w.heap.size) (hs : w'.heap[b]? = w.heap[b]?) : b < w'.heap.size := by
 rw [Array.getElem?_eq_getElem hb] at hs
 exact (Array.getElem?_eq_some_iff.1 hs).1
theorem thaw_frame {w w' : World} {v : Value} {l : List UInt8} (h : ∀ b off c, v = .slice (some ⟨b, off, none⟩) l.length c → ∀ i, i < l.length → w.frozen? ⟨b, off + i, none⟩ = false) (hs : ∀ g, v.ownBlock = some g → l ≠ [] → w'.heap[g]? = w.heap[g]?) :
 ∀ b off c, v = .slice (some ⟨b, off, none⟩) l.length c → ∀ i, i < l.length → w'.frozen? ⟨b, off + i, none⟩ = false := fun b off c e i hi => by
 rw [World.frozen?_of_block (w := w) (a := ⟨b, off + i, none⟩) (hs b (by rw [e]; rfl) (by rintro rfl; simp at hi))]
 exact h b off c e i hi
theorem DatA.frame {w w' : World} {S : Foot} {v : Value} {l : List UInt8} (h : DatA w S v l) (hs : SameOn S w w') : DatA w' S v l :=
 ⟨h.rd.same fun g e n => hs g (h.foot g e n), h.foot, fun g e n => lt_same (h.lt g e n) (hs g (h.foot g e n)), thaw_frame h.thaw fun g e n => hs g (h.foot g e n)⟩
theorem DatA.mono {w : World} {S S' : Foot} {v : Value} {l : List UInt8} (h : DatA w S v l) (hs : ∀ b, b < w.heap.size → S b → S' b) : DatA w S' v l := ⟨h.rd, fun g e n => hs g (h.lt g e n) (h.foot g e n), h.lt, h.thaw⟩
theorem DatA.keeps {w w' : World} {S : Foot} {v : Value} {l : List UInt8} (h : DatA w S v l) (hk : Keeps w w') : DatA w' S v l :=
 ⟨h.rd.keeps hk, h.foot, fun g e n => Nat.lt_of_lt_of_le (h.lt g e n) (keeps_lt hk), thaw_frame h.thaw fun g e n => hk g (h.lt g e n)⟩
inductive EsC (w : World) (S : Foot) : List Value → List Ent → Prop
 | nil : EsC w S [] []
 | cons {t : Nat} {d : Value} {l : List UInt8} {xs : List Value} {es : List Ent} (ht : t < 2 ^ 64) (hd : DatA w S d l) (h : EsC w S xs es) : EsC w S (.int .u64 (t : Int) :: d :: xs) ((t, l) :: es)
theorem EsC.len {w : World} {S : Foot} {xs : List Value} {es : List Ent} (h : EsC w S xs es) : xs.length = es.length * 2 := by
 induction h with
 | nil => rfl
 | cons ht hd h ih => simp only [List.length_cons, ih]; omega
theorem EsC.frame {w w' : World} {S : Foot} {xs : List Value} {es : List Ent} (h : EsC w S xs es) (hs : SameOn S w w') : EsC w' S xs es := by
 induction h with
 | nil => exact .nil
 | cons ht hd h ih => exact .cons ht (hd.frame hs) ih
theorem EsC.mono {w : World} {S S' : Foot} {xs : List Value} {es : List Ent} (h : EsC w S xs es) (hs : ∀ b, b < w.heap.size → S b → S' b) : EsC w S' xs es := by
 induction h with
 | nil => exact .nil
 | cons ht hd h ih => exact .cons ht (hd.mono hs) ih
theorem EsC.keeps {w w' : World} {S : Foot} {xs : List Value} {es : List Ent} (h : EsC w S xs es) (hk : Keeps w w') : EsC w' S xs es := by
 induction h with
 | nil => exact .nil
 | cons ht hd h ih => exact .cons ht (hd.keeps hk) ih
theorem EsC.append {w : World} {S : Foot} {xs ys : List Value} {es fs : List Ent} (h : EsC w S xs es) (k : EsC w S ys fs) : EsC w S (xs ++ ys) (es ++ fs) := by
 induction h with
 | nil => exact k
 | cons ht hd h ih => exact .cons ht hd ih
theorem EsC.at {w : World} {S : Foot} {xs : List Value} {es : List Ent} (h : EsC w S xs es) : ∀ (i : Nat) (hi : i < es.length), ∃ d, xs[i * 2]? = some (.int .u64 ((es[i].1 : Nat) : Int)) ∧ xs[i * 2 + 1]? = some d ∧ DatA w S d es[i].2 ∧ es[i].1 < 2 ^ 64 := by
 induction h with
 | nil => intro i hi; simp at hi
 | cons ht hd h ih =>
  intro i hi
  match i with
  | 0 => exact ⟨_, rfl, rfl, hd, ht⟩
  | i + 1 =>
   obtain ⟨d, h1, h2, h3, h4⟩ := ih i (by simpa using hi)
   refine ⟨d, ?_, ?_, h3, h4⟩
   · rw [show (i + 1) * 2 = i * 2 + 1 + 1 by omega]; simpa using h1
   · rw [show (i + 1) * 2 + 1 = i * 2 + 1 + 1 + 1 by omega]; simpa using h2
theorem EsC.take {w : World} {S : Foot} {xs : List Value} {es : List Ent} (h : EsC w S xs es) : ∀ n, EsC w S (xs.take (n * 2)) (es.take n) := by
 induction h with
 | nil => intro n; simp; exact .nil
 | cons ht hd h ih =>
  intro n
  match n with
  | 0 => simp; exact .nil
  | n + 1 => rw [show (n + 1) * 2 = n * 2 + 1 + 1 by omega]; exact .cons ht hd (ih n)
theorem EsC.drop {w : World} {S : Foot} {xs : List Value} {es : List Ent} (h : EsC w S xs es) : ∀ n, EsC w S (xs.drop (n * 2)) (es.drop n) := by
 induction h with
 | nil => intro n; simp; exact .nil
 | cons ht hd h ih =>
  intro n
  match n with
  | 0 => exact .cons ht hd h
  | n + 1 => rw [show (n + 1) * 2 = n * 2 + 1 + 1 by omega]; exact ih n
theorem EsC.one {w : World} {S : Foot} {xs : List Value} {es : List Ent} (h : EsC w S xs es) : ∀ u ∈ xs, u.oneCell' = true := by
 induction h with
 | nil => intro u hu; cases hu
 | cons ht hd h ih =>
  obtain ⟨p, c, hv, _⟩ := hd.rd
  intro u hu
  rcases List.mem_cons.1 hu with rfl | hu
  · rfl
  · rcases List.mem_cons.1 hu with rfl | hu
    · rw [hv]; rfl
    · exact ih u hu
def EsR (w : World) (S : Foot) (v : Value) (es : List Ent) : Prop :=
 ∃ p c xs, v = .slice p es.length c ∧ es.length ≤ c ∧ c ≤ maxLen ∧ (p = none → c = 0) ∧ EsC w S xs es ∧ (es ≠ [] → ∃ b off, p = some ⟨b, off, none⟩ ∧ S b ∧ b < w.heap.size ∧ ∀ j u, xs[j]? = some u → w.cell? ⟨b, off + j, none⟩ = some u)
theorem EsR.frame {w w' : World} {S : Foot} {v : Value} {es : List Ent} (h : EsR w S v es) (hs : SameOn S w w') : EsR w' S v es := by
 obtain ⟨p, c, xs, rfl, h1, h2, h3, h4, h5⟩ := h
 refine ⟨p, c, xs, rfl, h1, h2, h3, h4.frame hs, fun hl => ?_⟩
 obtain ⟨b, off, rfl, hb, hlt, hc⟩ := h5 hl
 exact ⟨b, off, rfl, hb, lt_same hlt (hs b hb), fun j u hu => by rw [World.cell?_of_block (a := ⟨b, off + j, none⟩) (hs b hb)]; exact hc j u hu⟩
theorem EsR.keeps {w w' : World} {S : Foot} {v : Value} {es : List Ent} (h : EsR w S v es) (hs : Keeps w w') : EsR w' S v es := by
 obtain ⟨p, c, xs, rfl, h1, h2, h3, h4, h5⟩ := h
 refine ⟨p, c, xs, rfl, h1, h2, h3, h4.keeps hs, fun hl => ?_⟩
 obtain ⟨b, off, rfl, hb, hlt, hc⟩ := h5 hl
 exact ⟨b, off, rfl, hb, Nat.lt_of_lt_of_le hlt (keeps_lt hs), fun j u hu => hs.cell (hc j u hu)⟩
theorem EsR.mono {w : World} {S S' : Foot} {v : Value} {es : List Ent} (h : EsR w S v es) (hs : ∀ b, b < w.heap.size → S b → S' b) : EsR w S' v es := by
 obtain ⟨p, c, xs, rfl, h1, h2, h3, h4, h5⟩ := h
 refine ⟨p, c, xs, rfl, h1, h2, h3, h4.mono hs, fun hl => ?_⟩
 obtain ⟨b, off, rfl, hb, hlt, hc⟩ := h5 hl
 exact ⟨b, off, rfl, hs b hlt hb, hlt, hc⟩
theorem EsR.nil (w : World) (S : Foot) : EsR w S (.slice none 0 0) [] := ⟨none, 0, [], rfl, Nat.le_refl _, by decide, fun _ => rfl, .nil, fun h => absurd rfl h⟩
def EsG (w : World) (S : Foot) (e : TypeId) (v : Value) (es : List Ent) : Prop :=
 (v = .slice none 0 0 ∧ es = []) ∨
 ∃ g cap cur, v = .slice (some ⟨g, 0, none⟩) es.length cap ∧ S g ∧ w.heap[g]? = some (.cells cur e (0, 0)) ∧ es.length ≤ cap ∧ cap ≤ maxLen ∧ cap * 2 ≤ cur.size ∧ EsC w (fun b => S b ∧ b ≠ g) (cur.toList.take (es.length * 2)) es
theorem EsG.form {w : World} {S : Foot} {e : TypeId} {v : Value} {es : List Ent} (h : EsG w S e v es) : ∃ p c, v = .slice p es.length c := by
 rcases h with ⟨rfl, rfl⟩ | ⟨g, cap, cur, rfl, _⟩
 · exact ⟨none, 0, rfl⟩
 · exact ⟨_, _, rfl⟩
theorem EsG.frame {w w' : World} {S : Foot} {e : TypeId} {v : Value} {es : List Ent} (h : EsG w S e v es) (hs : SameOn S w w') : EsG w' S e v es := by
 rcases h with h | ⟨g, cap, cur, rfl, hg, hh, h1, h2, h3, h4⟩
 · exact .inl h
 · exact .inr ⟨g, cap, cur, rfl, hg, by rw [hs g hg]; exact hh, h1, h2, h3, h4.frame fun b hb => hs b hb.1⟩
theorem EsG.keeps {w w' : World} {S : Foot} {e : TypeId} {v : Value} {es : List Ent} (h : EsG w S e v es) (hs : Keeps w w') : EsG w' S e v es := by
 rcases h with h | ⟨g, cap, cur, rfl, hg, hh, h1, h2, h3, h4⟩
 · exact .inl h
 · exact .inr ⟨g, cap, cur, rfl, hg, by rw [hs g (Array.getElem?_eq_some_iff.1 hh).1]; exact hh, h1, h2, h3, h4.keeps hs⟩
theorem EsG.mono {w : World} {S S' : Foot} {e : TypeId} {v : Value} {es : List Ent} (h : EsG w S e v es) (hs : ∀ b, b < w.heap.size → S b → S' b) : EsG w S' e v es := by
 rcases h with h | ⟨g, cap, cur, rfl, hg, hh, h1, h2, h3, h4⟩
 · exact .inl h
 · exact .inr ⟨g, cap, cur, rfl, hs g (Array.getElem?_eq_some_iff.1 hh).1 hg, hh, h1, h2, h3, h4.mono fun b hlt hb => ⟨hs b hlt hb.1, hb.2⟩⟩
theorem EsG.rd {w : World} {S : Foot} {e : TypeId} {v : Value} {es : List Ent} (h : EsG w S e v es) : EsR w S v es := by
 rcases h with ⟨rfl, rfl⟩ | ⟨g, cap, cur, rfl, hg, hh, h1, h2, h3, h4⟩
 · exact EsR.nil w S
 · refine ⟨_, cap, _, rfl, h1, h2, (fun h => by cases h), h4.mono fun b _ hb => hb.1, fun _ => ⟨g, 0, rfl, hg, (Array.getElem?_eq_some_iff.1 hh).1, fun j u hu => ?_⟩⟩
   rw [cell_of_row _ _ _ _ _ _ hh, Nat.zero_add]
   rw [List.getElem?_take] at hu
   split at hu
   · simpa using hu
   · cases hu
theorem EsG.foot {w : World} {S : Foot} {e : TypeId} {v : Value} {es : List Ent} (h : EsG w S e v es) : ∀ g, v.ownBlock = some g → S g ∧ g < w.heap.size := by
 rcases h with ⟨rfl, rfl⟩ | ⟨g, cap, cur, rfl, hg, hh, _⟩
 · intro g e; cases e
 · intro g' e; cases e; exact ⟨hg, (Array.getElem?_eq_some_iff.1 hh).1⟩
theorem run_append_esg {P : Program} {w : World} {S S' : Foot} {t ty e : TypeId} {z : Value} {bytes : Nat} (he : Elem P t e z 2 bytes)
 {v : Value} {es : List Ent} (hown : EsG w S e v es) {p : Option Addr} {c : Nat} {ys : List Value} {fs : List Ent} (hys : EsC w (fun b => S' b ∧ v.ownBlock ≠ some b) ys fs)
 (hsrc : (p = none ∧ fs = [] ∧ c = 0) ∨ ∃ a, p = some a ∧ ∀ j u, ys[j]? = some u → w.cell? (a.add j) = some u)
 (h63 : es.length + fs.length ≤ maxLen) (hbytes : (es.length + fs.length) * bytes ≤ 140737488355328) (hS : ∀ b, S b → S' b) (hnew : S' w.heap.size) :
 ∃ v' w', (Builtin.append_ #[t, t] ty #[v, .slice p fs.length c]).run P w = .ok v' w' ∧ EsG w' S' e v' (es ++ fs) ∧ w.grownBy w' v.ownBlock ∧ (v'.ownBlock = v.ownBlock ∨ v'.ownBlock = some w.heap.size) ∧ EsG w' S e v es := by
 obtain ⟨i, hi, hz, hs, hb⟩ := info_parts he.info
 have hsmall : es.length + fs.length ≤ 9223372036854775807 := by simp only [maxLen] at h63; omega
 have hyl : ys.length = fs.length * i.size := by rw [hys.len, hs]
 have grown : ∀ (old : Nat) (xs : List Value), EsC w S xs es → old < es.length + fs.length → ∀ row : Option Nat,
  EsG (w.drew.alloc (.cells (xs.toArray ++ ys.toArray ++ Builtin.zeroCells z.cells (grownCap w (es.length + fs.length) old e - (es.length + fs.length))) e)) S' e
   (.slice (some ⟨w.heap.size, 0, none⟩) (es.length + fs.length) (grownCap w (es.length + fs.length) old e)) (es ++ fs) ∧
  w.grownBy (w.drew.alloc (.cells (xs.toArray ++ ys.toArray ++ Builtin.zeroCells z.cells (grownCap w (es.length + fs.length) old e - (es.length + fs.length))) e)) row := by
  intro old xs hxs ho row
  have hge := grownCap_ge w (es.length + fs.length) old e
  have hcm := grownCap_le_maxLen w (es.length + fs.length) old e h63
  have hk : Keeps w (w.drew.alloc (.cells (xs.toArray ++ ys.toArray ++ Builtin.zeroCells z.cells (grownCap w (es.length + fs.length) old e - (es.length + fs.length))) e)) := (Keeps.refl w).drew.alloc _
  have hall : EsC w (fun b => S' b ∧ b ≠ w.heap.size) (xs ++ ys) (es ++ fs) := (hxs.mono fun b hlt h => ⟨hS b h, by omega⟩).append (hys.mono fun b hlt h => ⟨h.1, by omega⟩)
  refine ⟨.inr ⟨w.heap.size, _, _, by rw [List.length_append], hnew, heap_alloc_new w.drew _, by rw [List.length_append]; exact hge, hcm, ?_, ?_⟩, ⟨rfl, rfl, rfl, by simp, fun k hk _ => Below.heap_alloc w.drew _ k hk⟩⟩
  · simp only [Array.size_append, List.size_toArray, size_zeroCells, he.zs, hxs.len, hys.len, ← Nat.add_mul]
    refine Nat.le_of_eq ?_
    congr 1
    omega
  · have e1 : (xs.toArray ++ ys.toArray ++ Builtin.zeroCells z.cells (grownCap w (es.length + fs.length) old e - (es.length + fs.length))).toList.take ((es ++ fs).length * 2) = xs ++ ys := by
     simp only [Array.toList_append]
     have : (es ++ fs).length * 2 = (xs ++ ys).length := by rw [List.length_append, List.length_append, hxs.len, hys.len, Nat.add_mul]
     rw [this]
     exact List.take_left
    rw [e1]
    exact hall.keeps hk
 rcases hown with ⟨rfl, rfl⟩ | ⟨g, cap, cur, rfl, hSg, hg, hnc, hcm, hcs, hxs⟩
 · rcases hsrc with ⟨rfl, rfl, rfl⟩ | ⟨a, rfl, hnews⟩
   · refine ⟨.slice none 0 0, w, ?_, .inl ⟨rfl, rfl⟩, World.grownBy.refl _ _, .inl rfl, .inl ⟨rfl, rfl⟩⟩
     simp [Builtin.append_, run_underlying he.sl, sizeOf, typeInfo, hi, Builtin.lenOf, Builtin.firstCells]
   · by_cases hm : fs.length = 0
     · have hf : fs = [] := List.eq_nil_of_length_eq_zero hm
       subst hf
       refine ⟨.slice none 0 0, w, ?_, .inl ⟨rfl, rfl⟩, World.grownBy.refl _ _, .inl rfl, .inl ⟨rfl, rfl⟩⟩
       simp [Builtin.append_, run_underlying he.sl, sizeOf, typeInfo, hi, Builtin.lenOf, Builtin.firstCells, loadCells, loadCellsFrom]
     · have hr := run_append_nil (P := P) w t ty e i z he.sl hi hz a fs.length c ys hyl hnews (by omega) (by simp at hsmall; omega) (by have hb2 := hbytes; rw [← hb] at hb2; simp only [List.length_nil, Nat.zero_add] at hb2; omega)
       have hgr := grown 0 [] .nil (by simp; omega) (Value.ownBlock (.slice none 0 0))
       simp only [List.length_nil, Nat.zero_add, List.nil_append, Array.empty_append] at hgr ⊢
       exact ⟨_, _, hr, hgr.1, hgr.2, .inr rfl, .inl ⟨rfl, rfl⟩⟩
 · have hold : EsG w S e (.slice (some ⟨g, 0, none⟩) es.length cap) es := .inr ⟨g, cap, cur, rfl, hSg, hg, hnc, hcm, hcs, hxs⟩
   have hxl : (cur.toList.take (es.length * 2)).length = es.length * 2 := hxs.len
   rcases hsrc with ⟨rfl, rfl, rfl⟩ | ⟨a, rfl, hnews⟩
   · refine ⟨.slice (some ⟨g, 0, none⟩) es.length cap, w, ?_, ?_, World.grownBy.refl _ _, .inl rfl, hold⟩
     · simp [Builtin.append_, run_underlying he.sl, sizeOf, typeInfo, hi, Builtin.lenOf, Builtin.firstCells, hnc, storeCells]
     · rw [List.append_nil]
       exact .inr ⟨g, cap, cur, rfl, hS g hSg, hg, hnc, hcm, hcs, hxs.mono fun b _ h => ⟨hS b h.1, h.2⟩⟩
   · by_cases hroom : es.length + fs.length ≤ cap
     · have hfit : es.length * i.size + ys.length ≤ cur.size := by rw [hyl, hs, ← Nat.add_mul]; exact Nat.le_trans (Nat.mul_le_mul_right _ hroom) hcs
       have hr := run_append_room (P := P) w t ty e i he.sl hi g es.length cap cur hg a fs.length c ys hyl hnews hys.one hroom hfit
       refine ⟨_, _, hr, .inr ⟨g, cap, _, by rw [List.length_append], hS g hSg, setRow_heap w g cur _ e _ hg, by rw [List.length_append]; exact hroom, hcm, ?_, ?_⟩, ⟨rfl, rfl, rfl, by simp, fun k _ hk => setRow_other w g k _ (fun e => hk (by simp [Value.ownBlock, e]))⟩, .inl rfl, .inr ⟨g, cap, _, rfl, hSg, setRow_heap w g cur _ e _ hg, hnc, hcm, ?_, ?_⟩⟩
       · simp only [List.size_toArray, List.length_append, List.length_take, List.length_drop, Array.length_toList]
         omega
       · have e1 : (cur.toList.take (es.length * i.size) ++ ys ++ cur.toList.drop (es.length * i.size + ys.length)).toArray.toList.take ((es ++ fs).length * 2) = cur.toList.take (es.length * 2) ++ ys := by
          rw [hs]
          have : (es ++ fs).length * 2 = (cur.toList.take (es.length * 2) ++ ys).length := by rw [List.length_append, List.length_append, hxl, hys.len, Nat.add_mul]
          simp only []
          rw [this]
          exact List.take_left
         rw [e1]
         have hsm : ∀ b, b ≠ g → (w.setRow g (cur.toList.take (es.length * i.size) ++ ys ++ cur.toList.drop (es.length * i.size + ys.length)).toArray).heap[b]? = w.heap[b]? := fun b hb => setRow_other w g b _ hb
         have k1 : EsC w (fun b => S' b ∧ b ≠ g) (cur.toList.take (es.length * 2)) es := hxs.mono fun b _ h => ⟨hS b h.1, h.2⟩
         have k2 : EsC w (fun b => S' b ∧ b ≠ g) ys fs := hys.mono fun b _ h => ⟨h.1, fun e => h.2 (by simp [Value.ownBlock, e])⟩
         exact (k1.append k2).frame fun b hb => hsm b hb.2
       · simp only [List.size_toArray, List.length_append, List.length_take, List.length_drop, Array.length_toList]
         omega
       · have e1 : (cur.toList.take (es.length * i.size) ++ ys ++ cur.toList.drop (es.length * i.size + ys.length)).toArray.toList.take (es.length * 2) = cur.toList.take (es.length * 2) := by
          simp only []
          rw [hs, List.append_assoc, List.take_append_of_le_length (by rw [hxl]; exact Nat.le_refl _), List.take_of_length_le (by rw [hxl]; exact Nat.le_refl _)]
         rw [e1]
         exact hxs.frame fun b hb => setRow_other w g b _ hb.2
     · have hr := run_append_grow (P := P) w t ty e i z he.sl hi hz ⟨g, 0, none⟩ es.length cap (cur.toList.take (es.length * 2)) (by rw [hxl, hs]) (fun j u hu => ?_) a fs.length c ys hyl hnews (by omega) (by omega) (growslice_fits (by omega) (by rw [hb]; exact hbytes))
       · have hgr := grown cap _ (hxs.mono fun b _ h => h.1) (by omega) (Value.ownBlock (.slice (some ⟨g, 0, none⟩) es.length cap))
         exact ⟨_, _, hr, hgr.1, hgr.2, .inr rfl, hold.keeps ((Keeps.refl w).drew.alloc _)⟩
       · rw [Addr.add_lit, cell_of_row _ _ _ _ _ _ hg, Nat.zero_add]
         rw [List.getElem?_take] at hu
         split at hu
         · simpa using hu
         · cases hu
end Go.Proofs.Yteellfgiejnigaa
namespace Go.Proofs.Yteellfgiejnigaa
open Go.ChangeShapes Go.WideShapes Go.ChangeAt Go.RowKit
set_option linter.unusedVariables false
theorem hel : Elem Try.prog 29 5 (.int .u8 0) 1 1 := ⟨Try.underlying29, by kernel_rfl, rfl, by decide⟩
def zEnt : Value := .agg #[.int .u64 0, .slice none 0 0]
theorem helE : Elem Try.prog 28 53 zEnt 2 32 := ⟨Try.underlying28, by kernel_rfl, rfl, by decide⟩
theorem hz53 : ((Try.prog.info? 53).bind (·.zero)).map Value.cells = some #[.int .u64 0, .slice none 0 0] := by kernel_rfl
theorem eql29 (a : Option Addr) (n c : Nat) (w : World) : (binOp .eql 29 (.slice a n c) (.slice none 0 0)).run Try.prog w = .ok (.bool a.isNone) w := by
 simp only [binOp]
 simp [run_equal_slice_nil (P := Try.prog) w 29 5 a n c Try.underlying29]
set_option maxRecDepth 100000 in
theorem clone_w (d : Value) (l : List UInt8) (w : World) (hd : RdB w d l) (hl : l.length ≤ 140737488355328) :
 Calls Try.prog 124 #[d] w fun e w' => ∃ p c, e = .returned (.slice p l.length c) ∧ DatA w' (fun b => w.heap.size ≤ b) (.slice p l.length c) l ∧ Below w.heap.size w w' := by
 have H := zh hd
 obtain ⟨p, c, rfl, hp⟩ := hd
 cases p with
 | none =>
  have hc := hp.1 rfl
  have hle := hp.2.1
  have hl0 : l = [] := List.eq_nil_of_length_eq_zero (by omega)
  subst hl0
  clear hp hl H
  have he := fun n c w => eql29 none n c w
  go_enter Try.func124, Try.ntmps124
  go_wp2
  go_ret
  exact ⟨none, 0, rfl, ⟨(OB.nil w 0 5).rd, (fun g e _ => by cases e), (fun g e _ => by cases e), (fun b off c e => by cases e)⟩, Below.refl _ _⟩
 | some a =>
  have H1 := zh (OB.new w 5)
  have H2 := zh (H.out.keeps ((Keeps.refl w).alloc (.cells #[] 5)))
  clear hp
  have he := fun n c w => eql29 (some a) n c w
  go_enter Try.func124, Try.ntmps124
  go_wp2_with (refine wpList_append_bytes rfl (.tmp 5) (.tmp 6) 29 rfl hel rfl H1.out rfl H2.out (by simp; omega) (by simp) ?_; intro p1 n1 c1 w1 hn1 ho1 hg1; have Hn1 := zh hn1; have Ho1 := zh ho1; have HB1 := zh (((Below.refl w.heap.size w).alloc (Nat.le_refl _) _).trans (below_own H1.out hg1 (by simp))); clear hn1 ho1 hg1)
  go_ret
  have hn := Hn1.out
  rw [List.nil_append] at hn
  subst hn
  have ho := Ho1.out
  rw [List.nil_append] at ho
  exact ⟨p1, c1, rfl, ⟨ho.rd, fun g e _ => (ho.lt g e).1, fun g e _ => (ho.lt g e).2, fun b off c e i hi => by
   obtain ⟨g, hg, _⟩ := OB.some ho (by omega)
   subst hg
   cases e
   rw [Nat.zero_add]
   exact (ho.cell rfl hi).2.1⟩, HB1.out⟩
def EntAt (w : World) (N : Nat) (t : Nat) (d : Value) : Prop := w.heap[N]? = some (.cells #[.int .u64 (t : Int), d] 53)
theorem EntAt.new (w : World) (t : Nat) (d : Value) : EntAt (w.alloc (.cells #[.int .u64 (t : Int), d] 53)) w.heap.size t d := heap_alloc_new w _
theorem EntAt.lt {w : World} {N t : Nat} {d : Value} (h : EntAt w N t d) : N < w.heap.size := (Array.getElem?_eq_some_iff.1 h).1
theorem EntAt.keeps {w w' : World} {N t : Nat} {d : Value} (h : EntAt w N t d) (hk : Keeps w w') : EntAt w' N t d := by unfold EntAt; rw [hk N h.lt]; exact h
theorem EntAt.at1 {w : World} {N t : Nat} {d : Value} (h : EntAt w N t d) : w.cell? ⟨N, 1, none⟩ = some d := by rw [cell_of_row _ _ _ _ _ _ h]; rfl
theorem EntAt.at0 {w : World} {N t : Nat} {d : Value} (h : EntAt w N t d) : w.cell? ⟨N, 0, none⟩ = some (.int .u64 (t : Int)) := by rw [cell_of_row _ _ _ _ _ _ h]; rfl
theorem EntAt.frozen {w : World} {N t : Nat} {d : Value} (h : EntAt w N t d) (k : Nat) : w.frozen? ⟨N, k, none⟩ = false := by
 unfold EntAt at h
 simp [World.frozen?, h]
theorem EntAt.put1 {w : World} {N t : Nat} {d : Value} (h : EntAt w N t d) (d' : Value) : EntAt (w.setCell ⟨N, 1, none⟩ d') N t d' := by
 unfold EntAt at *
 simp only [World.setCell, Array.getElem?_modify, h, if_true, Option.map_some]
 rfl
theorem ent_one (t : Nat) (p : Option Addr) (n c : Nat) : (#[Value.int .u64 (t : Int), .slice p n c]).all (·.oneCell') = true := by simp [Value.oneCell']
set_option maxRecDepth 100000 in
theorem copied_w (t : Nat) (d : Value) (l : List UInt8) (w : World) (hd : RdB w d l) (hl : l.length ≤ 140737488355328) :
 Calls Try.prog 78 #[.agg #[.int .u64 (t : Int), d]] w fun e w' => ∃ p c, e = .returned (.agg #[.int .u64 (t : Int), .slice p l.length c]) ∧ DatA w' (fun b => w.heap.size ≤ b) (.slice p l.length c) l ∧ Below w.heap.size w w' := by
 have hE := EntAt.new w t d
 have hZ := heap_alloc_new (w.alloc (.cells #[.int .u64 (t : Int), d] 53)) (.cells #[.int .u64 0, .slice none 0 0] 53)
 have hE2 := hE.keeps ((Keeps.refl (w.alloc (.cells #[.int .u64 (t : Int), d] 53))).alloc (.cells #[.int .u64 0, .slice none 0 0] 53))
 have hB2 := ((Below.refl w.heap.size w).alloc (Nat.le_refl _) (.cells #[.int .u64 (t : Int), d] 53)).alloc (by simp) (.cells #[.int .u64 0, .slice none 0 0] 53)
 have hd2 := hd.below hB2
 have hs1 : (w.alloc (.cells #[.int .u64 (t : Int), d] 53)).heap.size = w.heap.size + 1 := heap_alloc_size _ _
 have hs2 : w.heap.size + 1 < ((w.alloc (.cells #[.int .u64 (t : Int), d] 53)).alloc (.cells #[.int .u64 0, .slice none 0 0] 53)).heap.size := by rw [heap_alloc_size, hs1]; omega
 rw [hs1] at hZ
 have c1 := hE2.at1
 have HE := zh hE2
 have HZ := zh hZ
 have HB := zh hB2
 have HD := zh hd2
 have HS := zh hs2
 clear hE hZ hE2 hB2 hd2 hs1 hd hs2
 go_enter Try.func78, Try.ntmps78
 go_wp2_with (first
  | (refine wpList_alloc_zero rfl 53 rfl _ hz53 ?_)
  | (go_at_call 124
     refine (clone_w d l _ HD.out hl).mono ?_
     rintro r w3 ⟨p, c, rfl, hd', hB⟩
     have HE3 := zh (HE.out.keeps hB.block)
     have HZ3 := zh ((hB.block _ HS.out).trans HZ.out)
     have HB3 := zh (HB.out.trans (hB.mono HB.out.size))
     have hc3 := HE3.out.at1
     have hf3 := HE3.out.frozen 1
     have HE4 := zh (HE3.out.put1 (.slice p l.length c))
     have HZ4 := zh (show (w3.setCell ⟨w.heap.size, 1, none⟩ (.slice p l.length c)).heap[w.heap.size + 1]? = some (.cells #[.int .u64 0, .slice none 0 0] 53) by rw [Below.heap_setCell _ _ _ _ (by simp)]; exact HZ3.out)
     have HD3 := zh hd'
     clear hd' hB)
  | (refine wpList_load_row rfl 53 (.tmp 1) rfl _ rfl _ _ _ _ HE4.out Try.underlying53 rfl (show _ = some 2 by kernel_rfl) ?_)
  | (refine wpList_store_rowTo rfl 53 (.tmp 2) (.tmp 7) rfl rfl (w.heap.size + 1) #[.int .u64 (t : Int), .slice p l.length c] (by first | rfl | exact congrArg (fun k => Value.pointer (some ⟨k, 0, none⟩)) (heap_alloc_size w _)) rfl 53 #[.int .u64 0, .slice none 0 0] HZ4.out (show _ = some 2 by kernel_rfl) rfl (ent_one _ _ _ _) ?_))
 have hres := setRow_heap _ (w.heap.size + 1) _ #[.int .u64 (t : Int), .slice p l.length c] _ _ HZ4.out
 refine bodyPost_ret (v := .agg #[.int .u64 (t : Int), .slice p l.length c]) (results_cell_row rfl _ _ (w.heap.size + 1) 53 _ _ _ (by first | rfl | exact congrArg (fun k => Value.pointer (some ⟨k, 0, none⟩)) (heap_alloc_size w _)) hres Try.underlying53 rfl (show _ = some 2 by kernel_rfl)) rfl ?_
 have hs := HS.out
 have hsm : SameOn (fun b => ((w.alloc (.cells #[.int .u64 (t : Int), d] 53)).alloc (.cells #[.int .u64 0, .slice none 0 0] 53)).heap.size ≤ b) w3
  ((w3.setCell ⟨w.heap.size, 1, none⟩ (.slice p l.length c)).setRow (w.heap.size + 1) #[.int .u64 (t : Int), .slice p l.length c]) := fun b hb => by
  have hb' : ((w.alloc (.cells #[.int .u64 (t : Int), d] 53)).alloc (.cells #[.int .u64 0, .slice none 0 0] 53)).heap.size ≤ b := hb
  rw [setRow_other _ _ _ _ (by omega), Below.heap_setCell _ _ _ _ (by simp; omega)]
 refine ⟨p, c, rfl, (HD3.out.frame hsm).mono fun b _ hb => ?_, ?_⟩
 · have hb' : ((w.alloc (.cells #[.int .u64 (t : Int), d] 53)).alloc (.cells #[.int .u64 0, .slice none 0 0] 53)).heap.size ≤ b := hb
   omega
 · exact (HB3.out.setCell (p := ⟨w.heap.size, 1, none⟩) (Nat.le_refl _) _).trans ⟨rfl, rfl, rfl, by simp, fun k hk => setRow_other _ _ _ _ (by omega)⟩
structure TkAt (w : World) (S : Foot) (g B T : Nat) (v : Value) (es : List Ent) : Prop where
 cells : w.heap[g]? = some (.cells #[.int .u64 (B : Int), .int .u64 (T : Int), v] 67)
 foot : S g
 own : EsG w (fun b => S b ∧ b ≠ g) 53 v es
 bB : B < 2 ^ 64
 bT : T < 2 ^ 64
 fits : B + es.length < 2 ^ 64
theorem TkAt.lt {w : World} {S : Foot} {g B T : Nat} {v : Value} {es : List Ent} (h : TkAt w S g B T v es) : g < w.heap.size := (Array.getElem?_eq_some_iff.1 h.cells).1
theorem TkAt.frame {w w' : World} {S : Foot} {g B T : Nat} {v : Value} {es : List Ent} (h : TkAt w S g B T v es) (hs : SameOn S w w') : TkAt w' S g B T v es :=
 ⟨by rw [hs g h.foot]; exact h.cells, h.foot, h.own.frame fun b hb => hs b hb.1, h.bB, h.bT, h.fits⟩
theorem TkAt.keeps {w w' : World} {S : Foot} {g B T : Nat} {v : Value} {es : List Ent} (h : TkAt w S g B T v es) (hk : Keeps w w') : TkAt w' S g B T v es :=
 ⟨by rw [hk g h.lt]; exact h.cells, h.foot, h.own.keeps hk, h.bB, h.bT, h.fits⟩
theorem TkAt.mono {w : World} {S S' : Foot} {g B T : Nat} {v : Value} {es : List Ent} (h : TkAt w S g B T v es) (hs : ∀ b, b < w.heap.size → S b → S' b) : TkAt w S' g B T v es :=
 ⟨h.cells, hs g h.lt h.foot, h.own.mono fun b hlt hb => ⟨hs b hlt hb.1, hb.2⟩, h.bB, h.bT, h.fits⟩
theorem TkAt.c0 {w : World} {S : Foot} {g B T : Nat} {v : Value} {es : List Ent} (h : TkAt w S g B T v es) : w.cell? ⟨g, 0, none⟩ = some (.int .u64 (B : Int)) := by rw [cell_of_row _ _ _ _ _ _ h.cells]; rfl
theorem TkAt.c1 {w : World} {S : Foot} {g B T : Nat} {v : Value} {es : List Ent} (h : TkAt w S g B T v es) : w.cell? ⟨g, 1, none⟩ = some (.int .u64 (T : Int)) := by rw [cell_of_row _ _ _ _ _ _ h.cells]; rfl
theorem TkAt.c2 {w : World} {S : Foot} {g B T : Nat} {v : Value} {es : List Ent} (h : TkAt w S g B T v es) : w.cell? ⟨g, 2, none⟩ = some v := by rw [cell_of_row _ _ _ _ _ _ h.cells]; rfl
theorem TkAt.frozen {w : World} {S : Foot} {g B T : Nat} {v : Value} {es : List Ent} (h : TkAt w S g B T v es) (k : Nat) : w.frozen? ⟨g, k, none⟩ = false := by
 have h := h.cells
 simp [World.frozen?, h]
set_option maxRecDepth 100000 in
theorem last_w (S : Foot) (g B T : Nat) (v : Value) (es : List Ent) (w : World) (h : TkAt w S g B T v es) :
 Calls Try.prog 76 #[.pointer (some ⟨g, 0, none⟩)] w fun r w' => r = .returned (.int .u64 ((B + es.length : Nat) : Int)) ∧ Below w.heap.size w w' := by
 have c0 := h.c0
 have c2 := h.c2
 obtain ⟨p, c, rfl⟩ := h.own.form
 have hf := h.fits
 have hw1 : IntKind.u64.wrap ((es.length : Nat) : Int) = ((es.length : Nat) : Int) := IntWalk.u64_in _ (by omega)
 have hw2 : IntKind.u64.wrap ((B : Int) + ((es.length : Nat) : Int)) = ((B + es.length : Nat) : Int) := by rw [IntWalk.u64_in _ (by omega)]; omega
 generalize B + es.length = L at *
 generalize es.length = n at *
 clear h
 go_enter Try.func76, Try.ntmps76
 go_wp2
 go_quiet (fail)
 go_wp2
 go_ret
 exact ⟨rfl, ⟨rfl, rfl, rfl, Nat.le_refl _, fun _ _ => rfl⟩⟩
theorem append_ok {P : Program} {w w' : World} {t : TypeId} {v x v' : Value} {post : Value → World → Prop} {o : Oper} {ρ : Operand → Value} (s y : Operand)
 (ho : o.op = .call { callee := .builtin .append, args := #[s, y], argTypes := #[t, t] }) (hs : ρ s = v) (hy : ρ y = x) (hr : (Builtin.append_ #[t, t] o.type #[v, x]).run P w = .ok v' w') (hp : post v' w') : RegT.OpOK P ((execOp ρ o).run P w) post := by
 unfold execOp
 simp only [ho, resolve, invoke, builtin, Sem.run_bind, Sem.run_pure, Result.andThen_ok, List.map_toArray, List.map_cons, List.map_nil, hs, hy, hr]
 exact hp
theorem EsR.elem {w : World} {S : Foot} {v : Value} {es : List Ent} (h : EsR w S v es) (k : Nat) (hk : k < es.length) : ∃ b off n c d, v = .slice (some ⟨b, off, none⟩) n c ∧ es.length = n ∧
 w.rangeAt b (off + k * 2) [.int .u64 ((es[k].1 : Nat) : Int), d] ∧ DatA w S d es[k].2 ∧ es[k].1 < 2 ^ 64 := by
 obtain ⟨p, c, xs, rfl, h1, h2, h3, h4, h5⟩ := h
 obtain ⟨b, off, rfl, hb, hlt, hc⟩ := h5 (by intro e; subst e; simp at hk)
 obtain ⟨d, q1, q2, q3, q4⟩ := h4.at k hk
 refine ⟨b, off, _, c, d, rfl, rfl, ?_, q3, q4⟩
 intro j u hu
 match j, hu with
 | 0, hu => cases hu; exact hc _ _ q1
 | 1, hu => cases hu; rw [Nat.add_assoc]; exact hc _ _ q2
 | j + 2, hu => simp at hu
theorem stored53 (W1 : World) (t : Nat) (d : Value) : ∃ W2, Hid ((W1.alloc (.cells #[.int .u64 0, .slice none 0 0] 53)).setRow W1.heap.size #[.int .u64 (t : Int), d] = W2) ∧ EntAt W2 W1.heap.size t d ∧ Below W1.heap.size W1 W2 := by
 refine ⟨_, zh rfl, setRow_heap _ _ _ _ _ _ (heap_alloc_new W1 _), ⟨rfl, rfl, rfl, by simp [World.setRow], fun k hk => by rw [setRow_other _ _ _ _ (by omega), Below.heap_alloc W1 _ k hk]⟩⟩
theorem TkAt.put {W : World} {S S' : Foot} {g B T : Nat} {v y : Value} {es fs : List Ent} (h : TkAt W S g B T v es) (hg : S' g) (ho : EsG W (fun b => S' b ∧ b ≠ g) 53 y fs) (hf : B + fs.length < 2 ^ 64) : TkAt (W.setCell ⟨g, 2, none⟩ y) S' g B T y fs := by
 refine ⟨?_, hg, ho.frame fun b hb => Below.heap_setCell _ _ _ _ (by simpa using hb.2), h.bB, h.bT, hf⟩
 have hc := h.cells
 simp only [World.setCell, Array.getElem?_modify, hc, if_true, Option.map_some]
 rfl
def RegR (u : Value) (S0 : Foot) (B0 : Nat) (es : List Ent) (x y : World) : Prop := Touch (fun b => u.ownBlock = some b ∨ B0 ≤ b) x y ∧ (EsG x S0 53 u es → EsG y S0 53 u es)
theorem RegR.refl (u : Value) (S0 : Foot) (B0 : Nat) (es : List Ent) (x : World) : RegR u S0 B0 es x x := ⟨Touch.refl _ _, id⟩
theorem RegR.trans (u : Value) (S0 : Foot) (B0 : Nat) (es : List Ent) (x y z : World) (h : RegR u S0 B0 es x y) (k : RegR u S0 B0 es y z) : RegR u S0 B0 es x z := ⟨h.1.trans k.1 fun _ _ e => e, fun e => k.2 (h.2 e)⟩
theorem RegR.grow (u : Value) (S0 : Foot) (B0 : Nat) (es : List Ent) (x y : World) (h : RegT.Grow x y) : RegR u S0 B0 es x y := ⟨Touch.of_below h, fun e => e.keeps h.block⟩
theorem row2 {W : World} {g : Nat} {a b c : Value} {t : TypeId} (h : W.heap[g]? = some (.cells #[a, b, c] t)) : W.cell? ⟨g, 2, none⟩ = some c := by rw [cell_of_row _ _ _ _ _ _ h]; rfl
theorem ent_cells {W : World} {N t : Nat} {d : Value} (h : EntAt W N t d) : ∀ j u, [Value.int .u64 (t : Int), d][j]? = some u → W.cell? ((⟨N, 0, none⟩ : Addr).add j) = some u := by
 intro j u hu
 rw [Addr.add_lit, cell_of_row _ _ _ _ _ _ h, Nat.zero_add]
 simpa using hu
theorem load_ent {o : Oper} {e : Operand → Value} {W : World} {N t : Nat} {d : Value} (x : Operand) (ho : o.op = .load 53 x) (hx : e x = .pointer (some ⟨N, 0, none⟩)) (h : EntAt W N t d) :
 (execOp e o).run Try.prog W = .ok (.value (.agg #[.int .u64 (t : Int), d])) W := by
 have hl := run_loadVar_row (P := Try.prog) W N 53 53 #[.int .u64 (t : Int), d] (0, 0) _ h Try.underlying53 rfl (show _ = some 2 by kernel_rfl)
 unfold execOp
 simp only [ho, hx, Instr.loadAt, Instr.sureAddr, Sem.run_bind, Sem.run_pure, Result.andThen_ok, hl]
def CopyOf (t : Nat) (l : List UInt8) (B0 : Nat) (y : Value) (W : World) : Prop := ∃ p c, y = .agg #[.int .u64 (t : Int), .slice p l.length c] ∧ DatA W (fun b => B0 ≤ b) (.slice p l.length c) l
theorem CopyOf.keeps {t : Nat} {l : List UInt8} {B0 : Nat} {y : Value} {W W' : World} (h : CopyOf t l B0 y W) (hk : Keeps W W') : CopyOf t l B0 y W' := by
 obtain ⟨p, c, rfl, hd⟩ := h; exact ⟨p, c, rfl, hd.keeps hk⟩
def RowOf (t : Nat) (l : List UInt8) (B0 : Nat) (y : Value) (W : World) : Prop := ∃ N p c, y = .slice (some ⟨N, 0, none⟩) 1 1 ∧ EntAt W N t (.slice p l.length c) ∧ DatA W (fun b => B0 ≤ b) (.slice p l.length c) l
theorem RowOf.keeps {t : Nat} {l : List UInt8} {B0 : Nat} {y : Value} {W W' : World} (h : RowOf t l B0 y W) (hk : Keeps W W') : RowOf t l B0 y W' := by
 obtain ⟨N, p, c, rfl, he, hd⟩ := h; exact ⟨N, p, c, rfl, he.keeps hk, hd.keeps hk⟩
set_option maxRecDepth 100000 in
set_option maxHeartbeats 3200000 in
theorem add_w (S R : Foot) (g B T : Nat) (v sv : Value) (es ss : List Ent) (w : World) (h : TkAt w S g B T v es) (hr : EsR w R sv ss) (hd : ∀ b, b < w.heap.size → R b → S b → False)
 (hn : es.length + ss.length ≤ 1000000) (hl : ∀ e ∈ ss, e.2.length ≤ 1000000) :
 Calls Try.prog 27 #[.pointer (some ⟨g, 0, none⟩), sv] w fun r w' => (∃ x, r = .returned x) ∧ ∃ v', TkAt w' (fun b => S b ∨ w.heap.size ≤ b) g B T v' (es ++ ss.take (18446744073709551615 - (B + es.length))) ∧ Touch S w w' := by
 obtain ⟨p0, c0, rfl⟩ : ∃ p c, sv = .slice p ss.length c := by obtain ⟨p, c, xs, h1, _⟩ := hr; exact ⟨p, c, h1⟩
 have H := zh h
 have Hr := zh (hr.mono (S' := fun b => R b ∧ b < w.heap.size) fun b hb hR => ⟨hR, hb⟩)
 have Hd := zh hd
 have Hl := zh hl
 have hglt := h.lt
 have hsl : ss.length ≤ 1000000 := by omega
 have Hn := zh hn
 clear h hr hd hl hn
 go_enter Try.func27, Try.ntmps27
 go_wp2
 go_loopw [10] (fun i wr => ∃ (k : Nat) (u : Value), k ≤ ss.length ∧ i = .int .i64 (k : Int) ∧ Hid (k ≤ 18446744073709551615 - (B + es.length)) ∧ Hid (TkAt wr (fun b => S b ∨ w.heap.size ≤ b) g B T u (es ++ ss.take k)) ∧ Hid (Touch S w wr)) (fun i _ => ss.length - (intOf i).toNat)
 case atStart => exact ⟨0, v, Nat.zero_le _, rfl, zh (Nat.zero_le _), zh (by rw [List.take_zero, List.append_nil]; exact H.out.mono fun b _ hb => .inl hb), zh (Touch.refl _ _)⟩
 case round =>
  obtain ⟨k, u, hk, rfl, HK, HT, HW⟩ := hrel
  by_cases hlt : k < ss.length
  · have HR := zh (Hr.out.frame (fun b hb => HW.out.block b hb.2 fun e => Hd.out b hb.2 hb.1 e))
    obtain ⟨b, off, n, c, d, hsv, hnn, hrange, hda, htl⟩ := HR.out.elem k hlt
    cases hsv
    have Hra := zh hrange
    have Hda := zh hda
    have Htl := zh htl
    have Hes := zh (show ss.take (k + 1) = ss.take k ++ [(ss[k].1, ss[k].2)] by rw [List.take_succ_eq_append_getElem hlt])
    have hll := Hl.out ss[k] (List.getElem_mem _)
    have hlen : (es ++ ss.take k).length = es.length + k := by rw [List.length_append, List.length_take, Nat.min_eq_left hk]
    have Hlen := zh hlen
    have HZ := zh (heap_alloc_new wr (.cells #[.int .u64 0, .slice none 0 0] 53))
    generalize ss[k].1 = t at *
    generalize ss[k].2 = l at *
    obtain ⟨pd, cd, rfl⟩ : ∃ p c, d = .slice p l.length c := by obtain ⟨p, c, h1, _⟩ := hda.rd; exact ⟨p, c, h1⟩
    obtain ⟨pu, nu, cu, rfl⟩ : ∃ p n c, u = .slice p n c := by obtain ⟨p, c, e⟩ := HT.out.own.form; exact ⟨p, _, c, e⟩
    obtain ⟨W2, HW2, hE, hB2⟩ := stored53 wr t (.slice pd l.length cd)
    have HE := zh hE
    have HB2 := zh hB2
    have HT2 := zh (HT.out.keeps hB2.block)
    have hg2 : g < wr.heap.size := HT.out.lt
    have Hlast := zh (last_w _ g B T _ _ W2 HT2.out)
    rw [Hlen.out] at Hlast
    have hfit := HT.out.fits
    rw [hlen] at hfit
    clear hrange hda htl hlen hE hB2
    by_cases htop : B + (es.length + k) = 18446744073709551615
    · have hdec : ((((B + (es.length + k) : Nat) : Int)) == 18446744073709551615) = true := by simp; omega
      have hdec2 : decide ((((B + (es.length + k) : Nat) : Int)) = 18446744073709551615) = true := by simp; omega
      have hkk : k = 18446744073709551615 - (B + es.length) := by omega
      have Hkk := zh hkk
      clear hkk
      generalize B + (es.length + k) = L at *
      go_wp2_with (first
       | (refine wpList_load_mid rfl 53 (.tmp 12) rfl _ _ rfl [.int .u64 (t : Int), .slice pd l.length cd] _ Hra.out Try.underlying53 rfl (show _ = some 2 by kernel_rfl) ?_)
       | (refine wpList_alloc_zero rfl 53 rfl _ hz53 ?_)
       | (refine wpList_store_rowTo rfl 53 (.tmp 5) (.tmp 13) rfl rfl _ #[.int .u64 (t : Int), .slice pd l.length cd] rfl rfl 53 #[.int .u64 0, .slice none 0 0] HZ.out (show _ = some 2 by kernel_rfl) rfl (ent_one _ _ _ _) ?_; rw [HW2.out])
       | (go_at_call 76; refine (Hlast.out).mono ?_; rintro r w3 ⟨rfl, hB⟩; have HB3 := zh hB; clear hB))
      refine bodyPost_ret (results_none rfl _ _ _) rfl ?_
      refine ⟨⟨_, rfl⟩, .slice pu nu cu, ?_, HW.out.trans (Touch.of_below (HB2.out.trans (HB3.out.mono HB2.out.size))) (S := S) (S1 := S) (fun b _ e => e)⟩
      rw [← Hkk.out]
      exact HT2.out.keeps HB3.out.block
    · have hdec : ((((B + (es.length + k) : Nat) : Int)) == 18446744073709551615) = false := by simp; omega
      have hdec2 : decide ((((B + (es.length + k) : Nat) : Int)) = 18446744073709551615) = false := by simp; omega
      have Hkk := zh (show k + 1 ≤ 18446744073709551615 - (B + es.length) by omega)
      have Hfit := zh (show B + (es.length + k) + 1 < 2 ^ 64 by omega)
      clear htop hfit
      generalize hL : B + (es.length + k) = L at *
      go_wp2_with (first
       | (refine wpList_load_mid rfl 53 (.tmp 12) rfl _ _ rfl [.int .u64 (t : Int), .slice pd l.length cd] _ Hra.out Try.underlying53 rfl (show _ = some 2 by kernel_rfl) ?_)
       | (refine wpList_alloc_zero rfl 53 rfl _ hz53 ?_)
       | (refine wpList_store_rowTo rfl 53 (.tmp 5) (.tmp 13) rfl rfl _ #[.int .u64 (t : Int), .slice pd l.length cd] rfl rfl 53 #[.int .u64 0, .slice none 0 0] HZ.out (show _ = some 2 by kernel_rfl) rfl (ent_one _ _ _ _) ?_; rw [HW2.out])
       | (go_at_call 76; refine (Hlast.out).mono ?_; rintro r w3 ⟨rfl, hB⟩; have HB3 := zh hB; clear hB))
      have HT3 := zh (HT2.out.keeps HB3.out.block)
      have hw3 : wr.heap.size ≤ w3.heap.size := Nat.le_trans HB2.out.size HB3.out.size
      have hNlt : wr.heap.size < w3.heap.size := Nat.lt_of_lt_of_le HE.out.lt HB3.out.size
      have hg3 : g < w3.heap.size := by omega
      have hww : w.heap.size ≤ wr.heap.size := HW.out.size
      have hug : ∀ x, (Value.slice pu nu cu).ownBlock = some x → x ≠ g ∧ x < wr.heap.size := fun x e => ⟨(HT.out.own.foot x e).1.2, (HT.out.own.foot x e).2⟩
      have Hug := zh hug
      clear hug
      have HDat := zh (fun (W : World) (hR : Touch (fun b => (Value.slice pu nu cu).ownBlock = some b ∨ w3.heap.size ≤ b) w3.drew W) => (show RdB W (.slice pd l.length cd) l from
       Hda.out.rd.same fun x e hne => by
        have hx := Hda.out.foot x e hne
        have hxl := Hda.out.lt x e hne
        rw [hR.block x (by show x < w3.heap.size; omega) (fun e2 => by
         rcases e2 with e2 | e2
         · rcases (HT.out.own.foot x e2).1.1 with e3 | e3
           · exact Hd.out x hx.2 hx.1 e3
           · have := hx.2; omega
         · omega)]
        exact (HB3.out.block x (Nat.lt_of_lt_of_le hxl HB2.out.size)).trans (HB2.out.block x hxl)))
      have Hcell := zh (fun (W : World) (hR : Touch (fun b => (Value.slice pu nu cu).ownBlock = some b ∨ w3.heap.size ≤ b) w3.drew W) => (show W.heap[g]? = some (.cells #[.int .u64 (B : Int), .int .u64 (T : Int), .slice pu nu cu] 67) from by
       rw [hR.block g hg3 (fun e => by rcases e with e | e; · exact (Hug.out g e).1 rfl
                                       · omega)]
       exact HT3.out.cells))
      have Hent := zh (fun (W : World) (hR : Touch (fun b => (Value.slice pu nu cu).ownBlock = some b ∨ w3.heap.size ≤ b) w3.drew W) => (show EntAt W wr.heap.size t (.slice pd l.length cd) from by
       unfold EntAt
       rw [hR.block _ hNlt (fun e => by rcases e with e | e; · have := (Hug.out _ e).2; omega
                                        · omega)]
       exact HE.out.keeps HB3.out.block))
      apply RegT.wp_region_T rfl 29 11 rfl (by kernel_rfl) (RegR (.slice pu nu cu) (fun b => (S b ∨ w.heap.size ≤ b) ∧ b ≠ g) w3.heap.size (es ++ ss.take k)) (RegR.refl _ _ _ _) (RegR.trans _ _ _ _)
      · iterate 3
         apply RegT.T_pure rfl rfl rfl
         · intro W hR; go_simp; rfl
         simp only [List.set_cons_succ, List.set_cons_zero, Nat.reduceAdd]
        apply RegT.T_pure (v := .pointer (some ⟨g, 2, none⟩)) rfl rfl rfl
        · intro W hR; clear hR; go_simp
        simp only [List.set_cons_succ, List.set_cons_zero, Nat.reduceAdd]
        apply RegT.T_pure (v := .slice pu nu cu) rfl rfl rfl
        · intro W hR
          have hc := row2 (Hcell.out W hR.1)
          clear hR
          go_simp
        simp only [List.set_cons_succ, List.set_cons_zero, Nat.reduceAdd]
        apply RegT.T_pure (v := .agg #[.int .u64 (t : Int), .slice pd l.length cd]) rfl rfl rfl
        · exact fun W hR => load_ent (.tmp 5) rfl rfl (Hent.out W hR.1)
        simp only [List.set_cons_succ, List.set_cons_zero, Nat.reduceAdd]
        apply RegT.T_predC rfl rfl rfl 7 (CopyOf t l w3.heap.size) (RegR.grow _ _ _ _) (fun y x z hR h => h.keeps hR.block)
        · intro W hR hf
          have hsz := hR.1.size
          have Hc := zh (copied_w t (.slice pd l.length cd) l W (HDat.out W hR.1) (by omega))
          clear hR hf
          go_simp
          exact RegT.OpOK_enter Hc.out (fun e w' ⟨p, c, he, hd, hB⟩ => ⟨_, he, ⟨p, c, rfl, hd.mono fun b _ hb => Nat.le_trans hsz hb⟩, hB⟩)
        intro v6
        simp only [List.set_cons_succ, List.set_cons_zero, Nat.reduceAdd]
        apply RegT.T_predC rfl rfl rfl 8 (RowOf t l w3.heap.size) (RegR.grow _ _ _ _) (fun y x z hR h => h.keeps hR.block)
        · intro W hR hf
          obtain ⟨p, c, rfl, hd⟩ := hf _ (.head _) (by kernel_rfl) (.inr rfl)
          clear hR hf
          go_simp
          exact RegT.OpOK_value ⟨⟨_, p, c, rfl, EntAt.new _ _ _, hd.keeps ((Keeps.refl W).alloc _)⟩, (Below.refl _ _).alloc (Nat.le_refl _) _⟩
        intro v7
        simp only [List.set_cons_succ, List.set_cons_zero, Nat.reduceAdd]
        apply RegT.T_write rfl rfl rfl none (fun y W => EsG W (fun b => (S b ∨ w.heap.size ≤ b) ∧ b ≠ g) 53 y (es ++ ss.take (k + 1))) (fun y x z hR h => h.keeps hR.block)
        · intro W hR hf
          obtain ⟨N, p, c, rfl, he, hd⟩ := hf _ (.head _) (by kernel_rfl) (.inr rfl)
          have hsz : w3.heap.size ≤ W.heap.size := hR.1.size
          obtain ⟨v', w', hr, ho', hg, _, hold⟩ := run_append_esg (P := Try.prog) (ty := 28) (c := 1) (S' := fun b => (S b ∨ w.heap.size ≤ b) ∧ b ≠ g) helE (hR.2 (HT3.out.own.keeps (Keeps.refl w3).drew)) (EsC.cons Htl.out (hd.mono fun b _ hb => (⟨⟨.inr (Nat.le_trans hww (Nat.le_trans hw3 hb)), fun e => by have hb2 : w3.heap.size ≤ b := hb; omega⟩, fun e => by have hb2 : w3.heap.size ≤ b := hb; have := (Hug.out b e).2; omega⟩ : ((S b ∨ w.heap.size ≤ b) ∧ b ≠ g) ∧ (Value.slice pu nu cu).ownBlock ≠ some b)) .nil) (.inr ⟨⟨N, 0, none⟩, rfl, ent_cells he⟩)
           (by rw [Hlen.out]; have := Hn.out; unfold maxLen; simp; omega) (by rw [Hlen.out]; have := Hn.out; simp; omega) (fun b hb => hb) ⟨.inr (by omega), by omega⟩
          refine append_ok (.tmp 21) (.tmp 24) rfl rfl rfl hr ⟨?_, ⟨Touch.of_grownBy hg fun b e => .inl e, fun _ => hold⟩⟩
          rw [Hes.out, ← List.append_assoc]; exact ho'
        intro v8
        simp only [List.set_cons_succ, List.set_cons_zero, Nat.reduceAdd]
        iterate 1
         apply RegT.T_pure rfl rfl rfl
         · intro W hR; go_simp; rfl
         simp only [List.set_cons_succ, List.set_cons_zero, Nat.reduceAdd]
        apply RegT.T_pure (v := .pointer (some ⟨g, 2, none⟩)) rfl rfl rfl
        · intro W hR; clear hR; go_simp
        simp only [List.set_cons_succ, List.set_cons_zero, Nat.reduceAdd]
        refine RegT.T_tail (fun W hR hf => ?_)
        have hy : EsG W (fun b => (S b ∨ w.heap.size ≤ b) ∧ b ≠ g) 53 v8 (es ++ ss.take (k + 1)) := hf _ (.head _) (.inl rfl)
        obtain ⟨p8, n8, c8, rfl⟩ : ∃ p n c, v8 = .slice p n c := by obtain ⟨p, c, e⟩ := hy.form; exact ⟨p, _, c, e⟩
        have Hy := zh hy
        have hcl := Hcell.out W hR.1
        have HTW := zh (show TkAt W (fun b => S b ∨ w.heap.size ≤ b) g B T (.slice pu nu cu) (es ++ ss.take k) from ⟨hcl, HT3.out.foot, hR.2 (HT3.out.own.keeps (Keeps.refl w3).drew), HT3.out.bB, HT3.out.bT, HT3.out.fits⟩)
        have hc2 := HTW.out.c2
        have hf2 := HTW.out.frozen 2
        have HTo := zh (show Touch S w W from by
         refine (HW.out.trans (Touch.of_below (HB2.out.trans (HB3.out.mono HB2.out.size))) (S := S) (S1 := S) (fun b _ e => e)).trans (S1 := fun b => (Value.slice pu nu cu).ownBlock = some b ∨ w3.heap.size ≤ b) (w1 := w3) ⟨hR.1.os, hR.1.tape, hR.1.output, hR.1.size, hR.1.block⟩ fun b hb e => ?_
         rcases e with e | e
         · rcases (HT.out.own.foot b e).1.1 with e3 | e3
           · exact e3
           · omega
         · have := HW.out.size; omega)
        clear hR hf hy hcl
        simp only [List.drop_succ_cons, List.drop_zero]
        go_wp2
        go_roundw
        case rel =>
         refine ⟨k + 1, _, by omega, by go_num, zh Hkk.out, zh (HTW.out.put HTW.out.foot Hy.out ?_), zh (HTo.out.trans (Touch.of_grownBy (S := fun b => b = g) (Lib.grownBy_setCell W g 2 _) (fun b e => by cases e; rfl)) fun b _ e => by subst e; exact H.out.foot)⟩
         have h1 := Hfit.out
         rw [List.length_append, List.length_take, Nat.min_eq_left (by omega : k + 1 ≤ ss.length)]
         omega
        case measure => simp [intOf]; omega
      · rfl
      · kernel_rfl
  · have hk2 : k = ss.length := by omega
    subst hk2
    go_wp2
    go_end0
    refine ⟨⟨_, rfl⟩, u, ?_, HW.out⟩
    have h1 := HT.out
    rw [List.take_length] at h1
    rw [List.take_of_length_le HK.out]
    exact h1
set_option maxRecDepth 100000 in
theorem new_w (R : Foot) (B T : Nat) (sv : Value) (ss : List Ent) (w : World) (hB : B < 2 ^ 64) (hT : T < 2 ^ 64) (hr : EsR w R sv ss) (hn : ss.length ≤ 1000000) (hl : ∀ e ∈ ss, e.2.length ≤ 1000000) :
 Calls Try.prog 22 #[.int .u64 (B : Int), .int .u64 (T : Int), sv] w fun r w' => r = .returned (.pointer (some ⟨w.heap.size, 0, none⟩)) ∧ (∃ v, TkAt w' (fun b => w.heap.size ≤ b) w.heap.size B T v (ss.take (18446744073709551615 - B))) ∧ Below w.heap.size w w' := by
 have hT0 : TkAt (w.alloc (.cells #[.int .u64 (B : Int), .int .u64 (T : Int), .slice none 0 0] 67)) (fun b => b = w.heap.size) w.heap.size B T (.slice none 0 0) [] :=
  ⟨heap_alloc_new w _, rfl, .inl ⟨rfl, rfl⟩, hB, hT, by simpa using hB⟩
 have Hadd := zh (add_w (fun b => b = w.heap.size) (fun b => R b ∧ b < w.heap.size) w.heap.size B T (.slice none 0 0) sv [] ss _ hT0
  ((hr.mono (S' := fun b => R b ∧ b < w.heap.size) fun b hb h => ⟨h, hb⟩).keeps ((Keeps.refl w).alloc _)) (fun b _ h e => by have := h.2; omega) (by simpa using hn) hl)
 have HB := zh ((Below.refl w.heap.size w).alloc (Nat.le_refl _) (.cells #[.int .u64 (B : Int), .int .u64 (T : Int), .slice none 0 0] 67))
 have hsz : (w.alloc (.cells #[.int .u64 (B : Int), .int .u64 (T : Int), .slice none 0 0] 67)).heap.size = w.heap.size + 1 := heap_alloc_size _ _
 have Hsz := zh hsz
 clear hT0 hr hn hl hsz
 go_enter Try.func22, Try.ntmps22
 go_wp2_with (
  go_at_call 27
  refine (Hadd.out).mono ?_
  rintro r w1 ⟨⟨x, rfl⟩, h⟩
  have H1 := zh h
  clear h)
 go_ret
 obtain ⟨v, h1, h2⟩ := H1.out
 refine ⟨rfl, ⟨v, ?_⟩, ?_⟩
 · have h3 := h1.mono (S' := fun b => w.heap.size ≤ b) fun b _ hb => by
    rcases hb with hb | hb
    · omega
    · rw [Hsz.out] at hb; omega
   simpa using h3
 · have h3 := h2.below (B := w.heap.size) (by rw [Hsz.out]; omega) (fun b hb => by omega)
   exact HB.out.trans h3
def tipT (T : Nat) (es : List Ent) : Nat := match es.getLast? with | none => T | some e => e.1
theorem EsR.term {w : World} {S : Foot} {v : Value} {es : List Ent} (h : EsR w S v es) (k : Nat) (hk : k < es.length) : ∃ b off c, v = .slice (some ⟨b, off, none⟩) es.length c ∧ w.cell? ⟨b, off + k * 2, none⟩ = some (.int .u64 ((es[k].1 : Nat) : Int)) := by
 obtain ⟨b, off, n, c, d, h1, h2, h3, _, _⟩ := h.elem k hk
 subst h2
 exact ⟨b, off, c, h1, by simpa using h3 0 _ rfl⟩
set_option maxRecDepth 100000 in
theorem tip_w (S : Foot) (g B T : Nat) (v : Value) (es : List Ent) (w : World) (h : TkAt w S g B T v es) (hn : es.length ≤ 1000000) :
 Calls Try.prog 23 #[.pointer (some ⟨g, 0, none⟩)] w fun r w' => r = .returned (.tuple #[.int .u64 ((B + es.length : Nat) : Int), .int .u64 ((tipT T es : Nat) : Int)]) ∧ Below w.heap.size w w' := by
 have H := zh h
 have Hlast := zh (fun W h => last_w S g B T v es W h)
 have c0 := h.c0
 have c1 := h.c1
 have c2 := h.c2
 rcases Nat.eq_zero_or_pos es.length with h0 | h0
 · have he : es = [] := List.eq_nil_of_length_eq_zero h0
   subst he
   obtain ⟨p, c, rfl⟩ := h.own.form
   clear h Hlast
   go_enter Try.func23, Try.ntmps23
   go_wp2
   go_quiet (fail)
   go_wp2
   go_ret2
   exact ⟨rfl, ⟨rfl, rfl, rfl, Nat.le_refl _, fun _ _ => rfl⟩⟩
 · obtain ⟨b, off, c, rfl, hc⟩ := h.own.rd.term (es.length - 1) (by omega)
   have ht : tipT T es = (es[es.length - 1]'(by omega)).1 := by unfold tipT; rw [List.getLast?_eq_getElem?, List.getElem?_eq_getElem (by omega)]
   rw [← ht] at hc
   generalize tipT T es = t at *
   clear h ht
   obtain ⟨m, hm⟩ : ∃ m, es.length = m + 1 := ⟨es.length - 1, by omega⟩
   rw [show es.length - 1 = m by omega] at hc
   have HW := zh (fun (W : World) (hk : Keeps w W) => And.intro (hk.cell c2) (hk.cell hc))
   have hml : m + 1 ≤ 1000000 := by omega
   have hnb : ¬ ((m : Int) + 1 ≤ (m : Int)) := by omega
   have hwm : IntKind.i64.wrap (m : Int) = (m : Int) := IntWalk.i64_in _ (by omega)
   have hL : ∃ L, B + es.length = L := ⟨_, rfl⟩
   obtain ⟨L, hL⟩ := hL
   rw [hL] at Hlast ⊢
   generalize es.length = n at *
   subst hm
   clear h0 hL hn c0 c1
   go_enter Try.func23, Try.ntmps23
   go_wp2
   apply RegT.wp_region_T rfl 33 13 rfl (by kernel_rfl) RegT.Grow RegT.Grow.refl RegT.Grow.trans
   · iterate 1
      apply RegT.T_pure rfl rfl rfl
      · intro W hR; go_simp; rfl
      simp only [List.set_cons_succ, List.set_cons_zero, Nat.reduceAdd]
     apply RegT.T_const rfl rfl rfl (.int .u64 (L : Int)) (fun _ _ h => h)
     · intro W hR hf
       have Hc := zh (Hlast.out W (H.out.keeps ((Keeps.refl w).drew.trans hR.block)))
       clear hR hf
       go_simp
       exact RegT.OpOK_enter Hc.out (fun e w' h => ⟨_, h.1, rfl, h.2⟩)
     simp only [List.set_cons_succ, List.set_cons_zero, Nat.reduceAdd]
     iterate 1
      apply RegT.T_pure rfl rfl rfl
      · intro W hR; go_simp; rfl
      simp only [List.set_cons_succ, List.set_cons_zero, Nat.reduceAdd]
     apply RegT.T_pure (v := .pointer (some ⟨g, 0, none⟩)) rfl rfl rfl
     · intro W hR; clear hR; go_simp
     simp only [List.set_cons_succ, List.set_cons_zero, Nat.reduceAdd]
     apply RegT.T_pure (v := .pointer (some ⟨g, 2, none⟩)) rfl rfl rfl
     · intro W hR; clear hR; go_simp
     simp only [List.set_cons_succ, List.set_cons_zero, Nat.reduceAdd]
     apply RegT.T_pure (v := .slice (some ⟨b, off, none⟩) (m + 1) c) rfl rfl rfl
     · intro W hR; have k2 := (HW.out W ((Keeps.refl w).drew.trans hR.block)).1; clear hR; go_simp
     simp only [List.set_cons_succ, List.set_cons_zero, Nat.reduceAdd]
     iterate 1
      apply RegT.T_pure rfl rfl rfl
      · intro W hR; go_simp; rfl
      simp only [List.set_cons_succ, List.set_cons_zero, Nat.reduceAdd]
     apply RegT.T_pure (v := .int .i64 (m : Int)) rfl rfl rfl
     iterate 2
      · intro W hR; clear hR; go_simp
      simp only [List.set_cons_succ, List.set_cons_zero, Nat.reduceAdd]
      apply RegT.T_pure (v := .pointer (some ⟨b, off + m * 2, none⟩)) rfl rfl rfl
     · intro W hR; clear hR; go_simp
     simp only [List.set_cons_succ, List.set_cons_zero, Nat.reduceAdd]
     apply RegT.T_pure (v := .int .u64 (t : Int)) rfl rfl rfl
     · intro W hR; have k2 := (HW.out W ((Keeps.refl w).drew.trans hR.block)).2; clear hR; go_simp
     simp only [List.set_cons_succ, List.set_cons_zero, Nat.reduceAdd]
     iterate 2
      apply RegT.T_pure rfl rfl rfl
      · intro W hR; go_simp; rfl
      simp only [List.set_cons_succ, List.set_cons_zero, Nat.reduceAdd]
     refine RegT.T_tail (fun W hR hf => ?_)
     have HR := zh hR
     clear hR hf
     simp only [List.drop_succ_cons, List.drop_zero]
     go_wp2
     go_ret2
     exact ⟨rfl, (Below.refl w.heap.size w).drew.trans HR.out⟩
   · rfl
   · kernel_rfl
def termAt (B T : Nat) (es : List Ent) (i : Nat) : Nat × Bool := if i < B ∨ B + es.length < i then (0, false) else if i = B then (T, true) else ((es.getD (i - B - 1) (0, [])).1, true)
set_option maxRecDepth 100000 in
theorem termat_w (S : Foot) (g B T : Nat) (v : Value) (es : List Ent) (i : Nat) (w : World) (h : TkAt w S g B T v es) (hn : es.length ≤ 1000000) (hi : i < 2 ^ 64) :
 Calls Try.prog 28 #[.pointer (some ⟨g, 0, none⟩), .int .u64 (i : Int)] w fun r w' => r = .returned (.tuple #[.int .u64 (((termAt B T es i).1 : Nat) : Int), .bool (termAt B T es i).2]) ∧ Below w.heap.size w w' := by
 have H := zh h
 have Hlast := zh (last_w S g B T v es w h)
 have c0 := h.c0
 have hf := h.fits
 unfold termAt
 by_cases h1 : i < B
 · rw [if_pos (.inl h1)]
   clear h Hlast
   have e1 : decide (i < B) = true := by simp; omega
   go_enter Try.func28, Try.ntmps28
   go_wp2
   go_ret2
   exact ⟨rfl, Below.refl _ _⟩
 · by_cases h2 : B + es.length < i
   · rw [if_pos (.inr h2)]
     have e1 : decide (i < B) = false := by simp; omega
     have e2 : decide (B + es.length < i) = true := by simp; omega
     generalize B + es.length = L at *
     clear h
     go_enter Try.func28, Try.ntmps28
     go_wp2_with (go_at_call 76; refine (Hlast.out).mono ?_; rintro r w1 ⟨rfl, hB⟩; have H1 := zh (H.out.keeps hB.block); have HB := zh hB; have c0 := H1.out.c0; have c1 := H1.out.c1; have c2 := H1.out.c2; clear hB)
     go_ret2
     exact ⟨rfl, HB.out⟩
   · rw [if_neg (by omega)]
     by_cases h3 : i = B
     · rw [if_pos h3]
       subst h3
       have e1 : decide (i < i) = false := by simp
       have e2 : decide (i + es.length < i) = false := by simp
       generalize i + es.length = L at *
       clear h
       go_enter Try.func28, Try.ntmps28
       go_wp2_with (go_at_call 76; refine (Hlast.out).mono ?_; rintro r w1 ⟨rfl, hB⟩; have H1 := zh (H.out.keeps hB.block); have HB := zh hB; have c0 := H1.out.c0; have c1 := H1.out.c1; have c2 := H1.out.c2; clear hB)
       go_ret2
       exact ⟨rfl, HB.out⟩
     · rw [if_neg h3]
       obtain ⟨k, hk⟩ : ∃ k, i = B + 1 + k := ⟨i - B - 1, by omega⟩
       have hkl : k < es.length := by omega
       obtain ⟨b, off, c, rfl, hc⟩ := h.own.rd.term k hkl
       have ht : (es.getD (i - B - 1) (0, [])).1 = es[k].1 := by rw [show i - B - 1 = k by omega, List.getD, List.getElem?_eq_getElem hkl]; rfl
       rw [ht]
       have Hc := zh hc
       generalize es[k].1 = t at *
       have e1 : decide (i < B) = false := by simp; omega
       have e2 : decide (B + es.length < i) = false := by simp; omega
       have e3 : decide (i = B) = false := by simp; omega
       have e4 : (i == B) = false := by simp; omega
       have e5 : IntKind.u64.wrap ((i : Int) - (B : Int)) = (k : Int) + 1 := by rw [IntWalk.u64_in _ (by omega)]; omega
       have e6 : IntKind.u64.wrap ((k : Int) + 1 - 1) = (k : Int) := by rw [IntWalk.u64_in _ (by omega)]; omega
       have e7 : (k : Int) + 1 - 1 = (k : Int) := by omega
       have e8 : IntKind.u64.wrap (k : Int) = (k : Int) := IntWalk.u64_in _ (by omega)
       generalize B + es.length = L at *
       generalize es.length = n at *
       clear h ht hc hk h3 h2 h1
       go_enter Try.func28, Try.ntmps28
       go_wp2_with (go_at_call 76; refine (Hlast.out).mono ?_; rintro r w1 ⟨rfl, hB⟩; have H1 := zh (H.out.keeps hB.block); have HB := zh hB; have c0 := H1.out.c0; have c1 := H1.out.c1; have c2 := H1.out.c2; have hcc := hB.cell (block_lt_of_cell Hc.out); rw [Hc.out] at hcc; clear hB)
       go_quiet (fail)
       go_wp2
       go_ret2
       exact ⟨rfl, HB.out.trans ⟨rfl, rfl, rfl, Nat.le_refl _, fun _ _ => rfl⟩⟩
def Iter (P : Program) (gf : FuncId) (lb : Array Value) (encs : Nat → Array Value) (N : Nat) (Kp : World → World → Prop) (Bp : Nat) (w : World) : Prop :=
 ∀ (l : Nat) (J Jx : Nat → World → Prop) (W : World), Below w.heap.size w W → (∀ k A v, J k A → J k (A.setCell ⟨Bp, 0, none⟩ v)) →
  (∀ k W1, J k W1 → k < N → YieldAt Fence.wide 0 P l (encs k) W1 fun e W' => (e = .returned (.bool true) ∧ J (k + 1) W' ∧ Kp W1 W') ∨ (e = .returned (.bool false) ∧ Jx k W')) →
  J 0 W → CallsIn Fence.wide 0 P gf (#[.func (.yield l) #[] #[]] ++ lb) W fun e W' => (∃ v, e = .returned v) ∧ (J N W' ∨ ∃ k, k < N ∧ Jx k W')
def Recs (B : Nat) (W W' : World) : Prop := W'.heap[B]? = W.heap[B]? ∧ W'.heap[B + 1]? = W.heap[B + 1]?
theorem Recs.refl (B : Nat) (W : World) : Recs B W W := ⟨rfl, rfl⟩
theorem Recs.trans {B : Nat} {W W1 W2 : World} (h : Recs B W W1) (k : Recs B W1 W2) : Recs B W W2 := ⟨k.1.trans h.1, k.2.trans h.2⟩
theorem Recs.keeps {B : Nat} {W W' : World} (h : Keeps W W') (hB : B + 1 < W.heap.size) : Recs B W W' := ⟨h B (by omega), h (B + 1) hB⟩
def roundWays (B : Nat) (c0 : Code) (Kp : World → World → Prop) (I Ix : Nat → World → Prop) (k : Nat) (W : World) : Exit → Act → World → Prop
 | .normal, _, W' => Recs B W W' ∧ Kp W W' ∧ I (k + 1) W'
 | .exit id, _, W' => c0 = .exit id ∧ Recs B W W' ∧ Ix k W'
 | .ret, _, _ => False
 | .goto _, _, _ => False
 | .panic _, _, _ => False
 | .outgrown, _, _ => False
theorem range_law {P : Program} {g : Operand} {ps : Array Tmp} {assign body : Code} {Q : Exit → Act → World → Prop} {a : Act} {w : World}
 {gf : FuncId} {lb : Array Value} (hg : a.eval g = .func (.func gf) #[] lb) (eg : ∀ args w, (callFunc gf args).run P w = .ok (.enter gf args) w)
 {encs : Nat → Array Value} {N : Nat} {Kp : World → World → Prop} {Bp : Nat} (hBp : Bp < w.heap.size) (hseq : Iter P gf lb encs N Kp Bp w) (hps : ∀ k, (encs k).size = ps.size)
 (hKt : ∀ {A B C : World}, Kp A B → Kp B C → Kp A C) (hKb : ∀ (W : World) (l : Nat) (o' : Obj), w.heap.size ≤ l → Kp W (W.putObj l o'))
 (c0 : Code) (hc0 : ∃ id, c0 = .exit id) (I Ix : Nat → World → Prop) (hI : ∀ k A l o', (l = w.heap.size ∨ l = w.heap.size + 1) → I k A → I k (A.putObj l o')) (hIx : ∀ k A l o', (l = w.heap.size ∨ l = w.heap.size + 1) → Ix k A → Ix k (A.putObj l o'))
 (hIw : ∀ k A v, I k A → I k (A.setCell ⟨Bp, 0, none⟩ v))
 (h0 : ∀ W, Below w.heap.size w W → w.heap.size + 2 ≤ W.heap.size → I 0 W) (a₁ : Nat → Act)
 (hassign : ∀ (l k : Nat) (W : World) (K : Act → World → Prop), K (a₁ k) W →
   assign.wpIn (Fence.wide.inRound l) 0 P (Exit.then K (fun _ _ _ => False)) { tmps := (ps.zip (encs k)).foldl (fun t (p, v) => t.setIfInBounds p v) a.tmps, defers := [] } W)
 (hbody : ∀ (l k : Nat) (W : World), I k W → k < N → w.heap.size + 1 < W.heap.size → body.wpIn (Fence.wide.inRound l) 0 P (roundWays w.heap.size c0 Kp I Ix k W) (a₁ k) W)
 (hdone : ∀ (W : World), I N W → W.heap[w.heap.size]? = some (.deferred (some [])) → Q .normal { a with defers := { target := .collected w.heap.size, args := #[] } :: a.defers } W)
 (hstop : ∀ (k : Nat) (W : World), k < N → Ix k W → W.heap[w.heap.size]? = some (.deferred (some [])) → c0.wpIn Fence.wide 0 P Q { a with defers := { target := .collected w.heap.size, args := #[] } :: a.defers } W) :
 (Code.rangeFunc g ps assign body).wpIn Fence.wide 0 P Q a w := by
 obtain ⟨id0, rfl⟩ := hc0
 refine wpIn_rangeFunc ?_
 intro fn hfn
 obtain ⟨rec, hrec⟩ : ∃ rec : LoopState → Option Code → Loop, rec = fun st pe => { state := st, pending := pe, fn, tmps := a.tmps, params := ps, assign, body, defers := w.heap.size } := ⟨_, rfl⟩
 obtain ⟨W1, hW1⟩ : ∃ W1, (w.alloc (.deferred (some []))).alloc (.loop (rec .ready none)) = W1 := ⟨_, rfl⟩
 have hb1 : Below w.heap.size w W1 := by rw [← hW1]; exact ((Below.refl _ w).alloc (Nat.le_refl _) _).alloc (by simp) _
 have hs1 : w.heap.size + 2 ≤ W1.heap.size := by rw [← hW1]; simp
 have hL : W1.heap[w.heap.size + 1]? = some (.loop (rec .ready none)) := by
  rw [← hW1]; have := World.alloc_heap_new (w.alloc (.deferred (some []))) (.loop (rec .ready none)); rwa [World.size_alloc] at this
 have hD : W1.heap[w.heap.size]? = some (.deferred (some [])) := by rw [← hW1]; exact (Below.heap_alloc _ _ _ (by simp)).trans (World.alloc_heap_new w _)
 refine ⟨w.heap.size + 1, [{ target := .collected w.heap.size, args := #[] }], W1, { target := .fn (.func gf) lb, args := #[.func (.yield (w.heap.size + 1)) #[] #[]] }, W1, gf,
  #[.func (.yield (w.heap.size + 1)) #[] #[]] ++ lb, W1, ?_, ?_, ?_, ?_, ?_, ?_⟩
 · rw [← hW1, hrec]; exact run_enterLoop_outer _ _ _ _ _
 · simp only [resolve, hg]
   simp [go_sem]
 · intro f' _; trivial
 · simp [invoke, go_sem, eg]
 · intro h; cases h
 · refine (hseq (w.heap.size + 1)
    (fun k W => I k W ∧ W.heap[w.heap.size + 1]? = some (.loop (rec .ready none)) ∧ W.heap[w.heap.size]? = some (.deferred (some [])))
    (fun k W => Ix k W ∧ W.heap[w.heap.size + 1]? = some (.loop (rec .done (some (.exit id0)))) ∧ W.heap[w.heap.size]? = some (.deferred (some [])))
    W1 hb1 (fun k A v h => ⟨hIw k A v h.1, by rw [Below.heap_setCell _ _ _ _ (by simp; omega)]; exact h.2.1, by rw [Below.heap_setCell _ _ _ _ (by simp; omega)]; exact h.2.2⟩) ?_ ⟨h0 W1 hb1 hs1, hL, hD⟩).mono ?_
   · rintro k W ⟨hi, hl, hk⟩ hlt
     have hlw : w.heap.size + 1 < W.heap.size := (Array.getElem?_eq_some_iff.1 hl).1
     have hy := run_yield (P := P) (args := encs k) hl (by rw [hrec]; exact hps k)
     rw [hrec] at hy
     refine ⟨fn, _, assign, body, hy, roundIn_of_wpIn hfn (hassign _ k W _ ⟨_, run_beginRound hl (by rw [hrec]), ?_⟩)⟩
     obtain ⟨W2, hW2⟩ : ∃ W2, W.putObj (w.heap.size + 1) (.loop { rec .ready none with state := .busy }) = W2 := ⟨_, rfl⟩
     have hl2 : W2.heap[w.heap.size + 1]? = some (.loop { rec .ready none with state := .busy }) := by rw [← hW2]; exact World.putObj_heap_same hlw
     have hk2 : W2.heap[w.heap.size]? = some (.deferred (some [])) := by rw [← hW2]; exact (World.putObj_heap_other (by omega)).trans hk
     have hi2 : I k W2 := by rw [← hW2]; exact hI k W _ _ (.inr rfl) hi
     have hw2 : Kp W W2 := by rw [← hW2]; exact hKb _ _ _ (by omega)
     rw [hW2]
     refine wpIn_mono (hbody _ k W2 hi2 hlt (Array.getElem?_eq_some_iff.1 hl2).1) ?_
     rintro e a3 W3 hp
     cases e with
     | normal =>
      obtain ⟨hr3, hk3, hi3⟩ := hp
      have hl3 := hr3.2.trans hl2
      have he := run_endRound (P := P) none hl3
      rw [hrec] at he
      refine ⟨_, _, he, .inl ⟨rfl, ⟨hI _ _ _ _ (.inr rfl) hi3, ?_, ?_⟩, hKt (hKt hw2 hk3) (hKb _ _ _ (by omega))⟩⟩
      · rw [World.putObj_heap_same (Array.getElem?_eq_some_iff.1 hl3).1, hrec]; rfl
      · exact (World.putObj_heap_other (by omega)).trans (hr3.1.trans hk2)
     | exit id =>
      obtain ⟨e, hr3, hi3⟩ := hp
      cases e
      have hl3 := hr3.2.trans hl2
      have he := run_endRound (P := P) (some (.exit id0)) hl3
      rw [hrec] at he
      refine ⟨_, _, he, .inr ⟨rfl, hIx _ _ _ _ (.inr rfl) hi3, ?_, ?_⟩⟩
      · rw [World.putObj_heap_same (Array.getElem?_eq_some_iff.1 hl3).1, hrec]; rfl
      · exact (World.putObj_heap_other (by omega)).trans (hr3.1.trans hk2)
     | ret => exact hp.elim
     | goto t => exact hp.elim
     | panic ch => exact hp.elim
     | outgrown => exact hp.elim
   · rintro e W2 ⟨⟨v, rfl⟩, (⟨hi, hl, hk⟩ | ⟨k, hk0, hi, hl, hk⟩)⟩
     · have he := run_endLoop (P := P) hl (by rw [hrec]; simp)
       rw [hrec] at he
       exact ⟨none, _, he, hdone _ (hI _ _ _ _ (.inr rfl) hi) ((World.putObj_heap_other (by omega)).trans hk)⟩
     · have he := run_endLoop (P := P) hl (by rw [hrec]; simp)
       rw [hrec] at he
       exact ⟨some (.exit id0), _, he, hstop k _ hk0 (hIx _ _ _ _ (.inr rfl) hi) ((World.putObj_heap_other (by omega)).trans hk)⟩
attribute [local go_sem] Oper.semAt_some
set_option maxRecDepth 100000 in
theorem placed_w (prev : Nat) (sv : Value) (hsv : sv.oneCell' = true) (w : World) :
 Calls Try.prog 77 #[.int .u64 (prev : Int), sv] w fun r w' => r = .returned (.func (.func 123) #[] #[.pointer (some ⟨w.heap.size + 1, 0, none⟩), .pointer (some ⟨w.heap.size, 0, none⟩)]) ∧
  w' = (w.alloc (.cells #[.int .u64 (prev : Int)] 22)).alloc (.cells #[sv] 28) := by
 go_enter Try.func77, Try.ntmps77
 go_wp2
 go_ret
 exact ⟨rfl, rfl⟩
def PlAt (w : World) (Bp Bl prev : Nat) (sv : Value) : Prop := w.heap[Bp]? = some (.cells #[.int .u64 (prev : Int)] 22) ∧ w.heap[Bl]? = some (.cells #[sv] 28)
theorem PlAt.put {w : World} {Bp Bl prev : Nat} {sv : Value} (h : PlAt w Bp Bl prev sv) (hne : Bp ≠ Bl) (m : Nat) : PlAt (w.setCell ⟨Bp, 0, none⟩ (.int .u64 (m : Int))) Bp Bl m sv := by
 obtain ⟨h1, h2⟩ := h
 refine ⟨?_, by rw [Below.heap_setCell _ _ _ _ (by simpa using Ne.symm hne)]; exact h2⟩
 simp only [World.setCell, Array.getElem?_modify, h1, if_true, Option.map_some]
 rfl
theorem PlAt.cp {w : World} {Bp Bl prev : Nat} {sv : Value} (h : PlAt w Bp Bl prev sv) : w.cell? ⟨Bp, 0, none⟩ = some (.int .u64 (prev : Int)) := by rw [cell_of_row _ _ _ _ _ _ h.1]; rfl
theorem PlAt.cl {w : World} {Bp Bl prev : Nat} {sv : Value} (h : PlAt w Bp Bl prev sv) : w.cell? ⟨Bl, 0, none⟩ = some sv := by rw [cell_of_row _ _ _ _ _ _ h.2]; rfl
theorem PlAt.fp {w : World} {Bp Bl prev : Nat} {sv : Value} (h : PlAt w Bp Bl prev sv) : w.frozen? ⟨Bp, 0, none⟩ = false := by
 have h := h.1
 simp [World.frozen?, h]
theorem PlAt.same {w w' : World} {Bp Bl prev : Nat} {sv : Value} (h : PlAt w Bp Bl prev sv) (hs : SameOn (fun b => b = Bp ∨ b = Bl) w w') : PlAt w' Bp Bl prev sv := ⟨(hs Bp (.inl rfl)).trans h.1, (hs Bl (.inr rfl)).trans h.2⟩
def placedN (prev n : Nat) : Nat := min n (18446744073709551615 - prev)
set_option maxRecDepth 100000 in
theorem placed_iter (w : World) (prev Bp Bl n c : Nat) (p : Option Addr) (hp : prev < 2 ^ 64) (hn : n ≤ 1000000) (hne : Bp ≠ Bl) (hat : PlAt w Bp Bl prev (.slice p n c)) :
 Iter Try.prog 123 #[.pointer (some ⟨Bl, 0, none⟩), .pointer (some ⟨Bp, 0, none⟩)] (fun k => #[.int .u64 ((prev + k + 1 : Nat) : Int), .int .i64 (k : Int)]) (placedN prev n) (SameOn (fun b => b = Bp ∨ b = Bl)) Bp w := by
 intro l J Jx W hW hJ hY h0
 have hlp : Bp < w.heap.size := (Array.getElem?_eq_some_iff.1 hat.1).1
 have hll : Bl < w.heap.size := (Array.getElem?_eq_some_iff.1 hat.2).1
 have hatW : PlAt W Bp Bl prev (.slice p n c) := hat.same fun b hb => hW.block b (by rcases hb with rfl | rfl <;> assumption)
 have cl0 := hatW.cl
 have HJ := zh hJ
 have HY := zh hY
 have H0 := zh h0
 have HA := zh hatW
 have HN := zh (show placedN prev n = min n (18446744073709551615 - prev) from rfl)
 clear hJ hY h0 hatW hat hW hlp hll
 generalize placedN prev n = N at *
 refine callsIn_of_wp Try.func123 rfl trivial ?_ rfl
 simp only [Try.ntmps123, List.size_toArray, List.length_cons, List.length_nil, Nat.reduceAdd, Nat.reduceSub, Array.replicate_succ, Array.replicate_zero, List.push_toArray, List.append_toArray, List.nil_append, List.cons_append]
 gi_wp2
 gi_loopw [7] (fun i wr => ∃ k : Nat, k ≤ n ∧ Hid (k ≤ N) ∧ i = .int .i64 (k : Int) ∧ Hid (J k wr) ∧ Hid (PlAt wr Bp Bl (prev + k) (.slice p n c))) (fun i _ => n - (intOf i).toNat)
 case atStart => exact ⟨0, Nat.zero_le _, zh (Nat.zero_le _), rfl, H0, HA⟩
 case round =>
  obtain ⟨k, hk, HK, rfl, HJk, HAk⟩ := hrel
  have fp := HAk.out.fp
  obtain ⟨m, hm⟩ : ∃ m, m = prev + k := ⟨_, rfl⟩
  have cp := HAk.out.cp
  rw [← hm] at cp
  have Hm := zh hm
  have hk6 : k ≤ 1000000 := by omega
  by_cases hlt : k < n
  · by_cases htop : m = 18446744073709551615
    · have Hk := zh (show k = N by have := HK.out; have := HN.out; omega)
      have e1 : (((m : Nat) : Int) == 18446744073709551615) = true := by simp; omega
      have e2 : decide (((m : Nat) : Int) = 18446744073709551615) = true := by simp; omega
      have e3 : (m == 18446744073709551615) = true := by simp; omega
      have e4 : decide (m = 18446744073709551615) = true := by simp; omega
      clear hm htop
      gi_wp2
      refine bodyPost_ret (results_none rfl _ _ _) rfl ?_
      refine ⟨⟨_, rfl⟩, .inl ?_⟩
      rw [← Hk.out]; exact HJk.out
    · obtain ⟨m1, hm1⟩ : ∃ m1, m1 = m + 1 := ⟨_, rfl⟩
      have hmb : m < 18446744073709551615 := by have := HK.out; have := HN.out; omega
      have e1 : (((m : Nat) : Int) == 18446744073709551615) = false := by simp; omega
      have e2 : decide (((m : Nat) : Int) = 18446744073709551615) = false := by simp; omega
      have e3 : (m == 18446744073709551615) = false := by simp; omega
      have e4 : decide (m = 18446744073709551615) = false := by simp; omega
      have e5 : IntKind.u64.wrap ((m : Int) + 1) = (m1 : Int) := by rw [IntWalk.u64_in _ (by omega)]; omega
      have e6 : IntKind.u64.wrap (m1 : Int) = (m1 : Int) := IntWalk.u64_in _ (by omega)
      have Hm1 := zh (show m1 = prev + k + 1 by omega)
      have hJ2 := HJ.out k wr (.int .u64 (m1 : Int)) HJk.out
      have hA2 := HAk.out.put hne m1
      have HkN := zh (show k < N by have := HN.out; omega)
      obtain ⟨fn, tmps, assign, body, hy, hR⟩ := HY.out k _ hJ2 HkN.out
      rw [← Hm1.out] at hy
      have cp2 := hA2.cp
      have HA2 := zh hA2
      clear hm hm1 htop hA2 hJ2 hmb
      gi_wp2
      refine ⟨rfl, hR.mono ?_⟩
      rintro e W3 (⟨rfl, hJ3, hk3⟩ | ⟨rfl, hJx⟩)
      · have HJ3 := zh hJ3
        have HA3 := zh (HA2.out.same hk3)
        clear hJ3 hk3 hR hy cp2
        gi_wp2
        go_roundw
        case rel => exact ⟨k + 1, by omega, zh (by have := HkN.out; omega), by go_num, HJ3, zh (by have h := HA3.out; rw [Hm1.out] at h; exact h)⟩
        case measure => simp [intOf]; omega
      · have HJx := zh hJx
        clear hJx hR hy cp2
        gi_wp2
        refine bodyPost_ret (results_none rfl _ _ _) rfl ?_
        exact ⟨⟨_, rfl⟩, .inr ⟨k, HkN.out, HJx.out⟩⟩
  · have Hk := zh (show k = N by have := HK.out; have := HN.out; omega)
    gi_wp2
    go_end0
    refine ⟨⟨_, rfl⟩, .inl ?_⟩
    rw [← Hk.out]; exact HJk.out
section
variable {F : Fence} {n : Nat} {P : Program} {ops : Array Oper} {rest : List Oper} {o : Oper} {a : Act} {w : World} {Q : Exit → Act → World → Prop}
theorem wpListIn_exec (hF : ∀ f, F.fn f) (hgd : o.guard = none) (hnd : ∀ c, o.op ≠ .defer c) {v : Value} {W' : World} (h : (execOp a.eval o).run P w = .ok (.value v) W')
 (k : wpListIn F n P ops Q rest (a.put o.dst v) W') : wpListIn F n P ops Q (o :: rest) a w := by
 refine wpListIn_plain hgd fun K hK => ?_
 refine ⟨fun f _ => hF f, ?_⟩
 rw [Oper.semAt_eq _ _ _ hnd, h]
 exact hK _ _ k
theorem wpListIn_exec_skip (hF : ∀ f, F.fn f) (hgd : o.guard = none) (hnd : ∀ c, o.op ≠ .defer c) (hd : o.dst = none) {W' : World} (h : (execOp a.eval o).run P w = .ok .skip W')
 (k : wpListIn F n P ops Q rest a W') : wpListIn F n P ops Q (o :: rest) a w := by
 refine wpListIn_plain hgd fun K hK => ?_
 refine ⟨fun f _ => hF f, ?_⟩
 rw [Oper.semAt_eq _ _ _ hnd, h]
 have h2 : a.put o.dst undef = a := by rw [hd]; rfl
 show K (a.put o.dst undef) W'
 rw [h2]
 exact hK _ _ k
end
theorem exec_load53 {o : Oper} {e : Operand → Value} {W : World} {b off t : Nat} {d : Value} (x : Operand) (ho : o.op = .load 53 x) (hx : e x = .pointer (some ⟨b, off, none⟩)) (h : W.rangeAt b off [.int .u64 (t : Int), d]) :
 (execOp e o).run Try.prog W = .ok (.value (.agg #[.int .u64 (t : Int), d])) W := by
 have hl := run_loadVar_mid (P := Try.prog) W b off 53 [.int .u64 (t : Int), d] _ h Try.underlying53 rfl (show _ = some 2 by kernel_rfl)
 unfold execOp
 simp only [ho, hx, Instr.loadAt, Instr.sureAddr, Sem.run_bind, Sem.run_pure, Result.andThen_ok, hl]
theorem exec_alloc53 {o : Oper} {e : Operand → Value} {W : World} (ho : o.op = .alloc 53) :
 (execOp e o).run Try.prog W = .ok (.value (.pointer (some ⟨W.heap.size, 0, none⟩))) (W.alloc (.cells #[.int .u64 0, .slice none 0 0] 53)) := by
 have hz := hz53
 unfold execOp
 simp only [ho]
 cases hi : Try.prog.info? 53 with
 | none => simp [hi] at hz
 | some i =>
  cases hz' : i.zero with
  | none => simp [hi, hz'] at hz
  | some z =>
   simp [hi, hz'] at hz
   simp [Instr.alloc, zeroValue, typeInfo, hi, hz', newVar, newRow, Sem.run_bind, hz]
theorem exec_store53 {o : Oper} {e : Operand → Value} {W : World} {g t : Nat} {p : Option Addr} {m c : Nat} (x y : Operand) (ho : o.op = .store 53 x y) (hx : e x = .pointer (some ⟨g, 0, none⟩)) (hy : e y = .agg #[.int .u64 (t : Int), .slice p m c])
 (hg : W.heap[g]? = some (.cells #[.int .u64 0, .slice none 0 0] 53)) : (execOp e o).run Try.prog W = .ok .skip (W.setRow g #[.int .u64 (t : Int), .slice p m c]) := by
 have hs := run_storeVar_row (P := Try.prog) W g 53 53 _ #[.int .u64 (t : Int), .slice p m c] hg (show _ = some 2 by kernel_rfl) rfl (ent_one _ _ _ _)
 unfold execOp
 simp only [ho, hx, hy, Instr.storeAt, Instr.sureAddr, Sem.run_bind, Sem.run_pure, Result.andThen_ok, hs]
end Go.Proofs.Yteellfgiejnigaa
