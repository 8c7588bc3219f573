/- RaftSafe: G1, S1. -/
import Derived.Test.YteellfgiejnigaaQtA01
namespace Go.Proofs.Yteellfgiejnigaa
open Go.ChangeShapes Go.WideShapes Go.ChangeAt Go.RowKit
set_option linter.unusedVariables false
structure Rep (α : Type) where
 k : Nat
 rel : World → Foot → α → List Value → Prop
 len : ∀ {w : World} {S : Foot} {x : α} {cs : List Value}, rel w S x cs → cs.length = k
 one : ∀ {w : World} {S : Foot} {x : α} {cs : List Value}, rel w S x cs → ∀ u ∈ cs, u.oneCell' = true
 frame : ∀ {w w' : World} {S : Foot} {x : α} {cs : List Value}, rel w S x cs → SameOn S w w' → rel w' S x cs
 mono : ∀ {w : World} {S S' : Foot} {x : α} {cs : List Value}, rel w S x cs → (∀ b, b < w.heap.size → S b → S' b) → rel w S' x cs
 keeps : ∀ {w w' : World} {S : Foot} {x : α} {cs : List Value}, rel w S x cs → Keeps w w' → rel w' S x cs
section
variable {α : Type} {R : Rep α} {w w' : World} {S S' : Foot}
inductive RoC (R : Rep α) (w : World) (S : Foot) : List Value → List α → Prop
 | nil : RoC R w S [] []
 | cons {x : α} {cs xs : List Value} {l : List α} (hx : R.rel w S x cs) (h : RoC R w S xs l) : RoC R w S (cs ++ xs) (x :: l)
theorem RoC.len {xs : List Value} {l : List α} (h : RoC R w S xs l) : xs.length = l.length * R.k := by
 induction h with
 | nil => simp
 | cons hx h ih => rw [List.length_append, List.length_cons, ih, R.len hx, Nat.add_mul, Nat.one_mul, Nat.add_comm]
theorem RoC.frame {xs : List Value} {l : List α} (h : RoC R w S xs l) (hs : SameOn S w w') : RoC R w' S xs l := by
 induction h with
 | nil => exact .nil
 | cons hx h ih => exact .cons (R.frame hx hs) ih
theorem RoC.mono {xs : List Value} {l : List α} (h : RoC R w S xs l) (hs : ∀ b, b < w.heap.size → S b → S' b) : RoC R w S' xs l := by
 induction h with
 | nil => exact .nil
 | cons hx h ih => exact .cons (R.mono hx hs) ih
theorem RoC.keeps {xs : List Value} {l : List α} (h : RoC R w S xs l) (hk : Keeps w w') : RoC R w' S xs l := by
 induction h with
 | nil => exact .nil
 | cons hx h ih => exact .cons (R.keeps hx hk) ih
theorem RoC.append {xs ys : List Value} {l m : List α} (h : RoC R w S xs l) (k : RoC R w S ys m) : RoC R w S (xs ++ ys) (l ++ m) := by
 induction h with
 | nil => exact k
 | cons hx h ih => rw [List.append_assoc]; exact .cons hx ih
theorem RoC.single {x : α} {cs : List Value} (hx : R.rel w S x cs) : RoC R w S cs [x] := by
 have := RoC.cons hx (.nil (R := R) (w := w) (S := S)); rwa [List.append_nil] at this
theorem RoC.one {xs : List Value} {l : List α} (h : RoC R w S xs l) : ∀ u ∈ xs, u.oneCell' = true := by
 induction h with
 | nil => intro u hu; cases hu
 | cons hx h ih =>
  intro u hu
  rcases List.mem_append.1 hu with hu | hu
  · exact R.one hx u hu
  · exact ih u hu
theorem RoC.at {xs : List Value} {l : List α} (h : RoC R w S xs l) : ∀ (i : Nat) (hi : i < l.length), ∃ cs, R.rel w S l[i] cs ∧ ∀ j u, cs[j]? = some u → xs[i * R.k + j]? = some u := by
 induction h with
 | nil => intro i hi; simp at hi
 | @cons x cs xs l hx h ih =>
  intro i hi
  match i with
  | 0 =>
   refine ⟨cs, hx, fun j u hu => ?_⟩
   rw [Nat.zero_mul, Nat.zero_add, List.getElem?_append_left (List.getElem?_eq_some_iff.1 hu).1]; exact hu
  | i + 1 =>
   obtain ⟨ds, h1, h2⟩ := ih i (by simpa using hi)
   refine ⟨ds, h1, fun j u hu => ?_⟩
   rw [List.getElem?_append_right (by rw [R.len hx, Nat.add_mul, Nat.one_mul]; omega), R.len hx, show (i + 1) * R.k + j - R.k = i * R.k + j by rw [Nat.add_mul, Nat.one_mul]; omega]
   exact h2 j u hu
theorem RoC.take {xs : List Value} {l : List α} (h : RoC R w S xs l) : ∀ n, RoC R w S (xs.take (n * R.k)) (l.take n) := by
 induction h with
 | nil => intro n; simp; exact .nil
 | @cons x cs xs l hx h ih =>
  intro n
  match n with
  | 0 => simp; exact .nil
  | n + 1 =>
   have := R.len hx
   rw [Nat.add_mul, Nat.one_mul, List.take_append, List.take_of_length_le (by omega), show n * R.k + R.k - cs.length = n * R.k by omega]
   exact .cons hx (ih n)
theorem RoC.drop {xs : List Value} {l : List α} (h : RoC R w S xs l) : ∀ n, RoC R w S (xs.drop (n * R.k)) (l.drop n) := by
 induction h with
 | nil => intro n; simp; exact .nil
 | @cons x cs xs l hx h ih =>
  intro n
  match n with
  | 0 => simp; exact .cons hx h
  | n + 1 =>
   have := R.len hx
   rw [Nat.add_mul, Nat.one_mul, List.drop_append, List.drop_eq_nil_of_le (by omega), show n * R.k + R.k - cs.length = n * R.k by omega]
   exact ih n
def RoR (R : Rep α) (w : World) (S : Foot) (v : Value) (l : List α) : Prop :=
 ∃ p c xs, v = .slice p l.length c ∧ l.length ≤ c ∧ c ≤ maxLen ∧ (p = none → c = 0) ∧ RoC R w S xs l ∧ (l ≠ [] → ∃ b off, p = some ⟨b, off, none⟩ ∧ S b ∧ b < w.heap.size ∧ ∀ j u, xs[j]? = some u → w.cell? ⟨b, off + j, none⟩ = some u)
theorem RoR.frame {v : Value} {l : List α} (h : RoR R w S v l) (hs : SameOn S w w') : RoR R w' S v l := by
 obtain ⟨p, c, xs, rfl, h1, h2, h3, h4, h5⟩ := h
 refine ⟨p, c, xs, rfl, h1, h2, h3, h4.frame hs, fun hl => ?_⟩
 obtain ⟨b, off, rfl, hb, hlt, hc⟩ := h5 hl
 exact ⟨b, off, rfl, hb, lt_same hlt (hs b hb), fun j u hu => by rw [World.cell?_of_block (a := ⟨b, off + j, none⟩) (hs b hb)]; exact hc j u hu⟩
theorem RoR.keeps {v : Value} {l : List α} (h : RoR R w S v l) (hs : Keeps w w') : RoR R w' S v l := by
 obtain ⟨p, c, xs, rfl, h1, h2, h3, h4, h5⟩ := h
 refine ⟨p, c, xs, rfl, h1, h2, h3, h4.keeps hs, fun hl => ?_⟩
 obtain ⟨b, off, rfl, hb, hlt, hc⟩ := h5 hl
 exact ⟨b, off, rfl, hb, Nat.lt_of_lt_of_le hlt (keeps_lt hs), fun j u hu => hs.cell (hc j u hu)⟩
theorem RoR.mono {v : Value} {l : List α} (h : RoR R w S v l) (hs : ∀ b, b < w.heap.size → S b → S' b) : RoR R w S' v l := by
 obtain ⟨p, c, xs, rfl, h1, h2, h3, h4, h5⟩ := h
 refine ⟨p, c, xs, rfl, h1, h2, h3, h4.mono hs, fun hl => ?_⟩
 obtain ⟨b, off, rfl, hb, hlt, hc⟩ := h5 hl
 exact ⟨b, off, rfl, hs b hlt hb, hlt, hc⟩
theorem RoR.nil (w : World) (S : Foot) : RoR R w S (.slice none 0 0) [] := ⟨none, 0, [], rfl, Nat.le_refl _, by decide, fun _ => rfl, .nil, fun h => absurd rfl h⟩
theorem RoR.form {v : Value} {l : List α} (h : RoR R w S v l) : ∃ p c, v = .slice p l.length c := by obtain ⟨p, c, xs, e, _⟩ := h; exact ⟨p, c, e⟩
theorem RoR.elem {v : Value} {l : List α} (h : RoR R w S v l) (i : Nat) (hi : i < l.length) : ∃ b off c cs, v = .slice (some ⟨b, off, none⟩) l.length c ∧ S b ∧ b < w.heap.size ∧ w.rangeAt b (off + i * R.k) cs ∧ R.rel w S l[i] cs := by
 obtain ⟨p, c, xs, rfl, h1, h2, h3, h4, h5⟩ := h
 obtain ⟨b, off, rfl, hb, hlt, hc⟩ := h5 (by intro e; subst e; simp at hi)
 obtain ⟨cs, q1, q2⟩ := h4.at i hi
 refine ⟨b, off, c, cs, rfl, hb, hlt, fun j u hu => ?_, q1⟩
 rw [Nat.add_assoc]
 exact hc _ _ (q2 j u hu)
def RoG (R : Rep α) (w : World) (S : Foot) (e : TypeId) (v : Value) (l : List α) : Prop :=
 (v = .slice none 0 0 ∧ l = []) ∨
 ∃ g cap cur, v = .slice (some ⟨g, 0, none⟩) l.length cap ∧ S g ∧ w.heap[g]? = some (.cells cur e (0, 0)) ∧ l.length ≤ cap ∧ cap ≤ maxLen ∧ cap * R.k ≤ cur.size ∧ RoC R w (fun b => S b ∧ b ≠ g) (cur.toList.take (l.length * R.k)) l
variable {e : TypeId}
theorem RoG.form {v : Value} {l : List α} (h : RoG R w S e v l) : ∃ p c, v = .slice p l.length c := by
 rcases h with ⟨rfl, rfl⟩ | ⟨g, cap, cur, rfl, _⟩
 · exact ⟨none, 0, rfl⟩
 · exact ⟨_, _, rfl⟩
theorem RoG.frame {v : Value} {l : List α} (h : RoG R w S e v l) (hs : SameOn S w w') : RoG R w' S e v l := by
 rcases h with h | ⟨g, cap, cur, rfl, hg, hh, h1, h2, h3, h4⟩
 · exact .inl h
 · exact .inr ⟨g, cap, cur, rfl, hg, by rw [hs g hg]; exact hh, h1, h2, h3, h4.frame fun b hb => hs b hb.1⟩
theorem RoG.keeps {v : Value} {l : List α} (h : RoG R w S e v l) (hs : Keeps w w') : RoG R w' S e v l := by
 rcases h with h | ⟨g, cap, cur, rfl, hg, hh, h1, h2, h3, h4⟩
 · exact .inl h
 · exact .inr ⟨g, cap, cur, rfl, hg, by rw [hs g (Array.getElem?_eq_some_iff.1 hh).1]; exact hh, h1, h2, h3, h4.keeps hs⟩
theorem RoG.mono {v : Value} {l : List α} (h : RoG R w S e v l) (hs : ∀ b, b < w.heap.size → S b → S' b) : RoG R w S' e v l := by
 rcases h with h | ⟨g, cap, cur, rfl, hg, hh, h1, h2, h3, h4⟩
 · exact .inl h
 · exact .inr ⟨g, cap, cur, rfl, hs g (Array.getElem?_eq_some_iff.1 hh).1 hg, hh, h1, h2, h3, h4.mono fun b hlt hb => ⟨hs b hlt hb.1, hb.2⟩⟩
theorem RoG.rd {v : Value} {l : List α} (h : RoG R w S e v l) : RoR R w S v l := by
 rcases h with ⟨rfl, rfl⟩ | ⟨g, cap, cur, rfl, hg, hh, h1, h2, h3, h4⟩
 · exact RoR.nil w S
 · refine ⟨_, cap, _, rfl, h1, h2, (fun h => by cases h), h4.mono fun b _ hb => hb.1, fun _ => ⟨g, 0, rfl, hg, (Array.getElem?_eq_some_iff.1 hh).1, fun j u hu => ?_⟩⟩
   rw [cell_of_row _ _ _ _ _ _ hh, Nat.zero_add]
   rw [List.getElem?_take] at hu
   split at hu
   · simpa using hu
   · cases hu
theorem RoG.foot {v : Value} {l : List α} (h : RoG R w S e v l) : ∀ g, v.ownBlock = some g → S g ∧ g < w.heap.size := by
 rcases h with ⟨rfl, rfl⟩ | ⟨g, cap, cur, rfl, hg, hh, _⟩
 · intro g e; cases e
 · intro g' e; cases e; exact ⟨hg, (Array.getElem?_eq_some_iff.1 hh).1⟩
theorem run_append_rog {P : Program} {t ty : TypeId} {z : Value} {bytes : Nat} (he : Elem P t e z R.k bytes)
 {v : Value} {es : List α} (hown : RoG R w S e v es) {p : Option Addr} {c : Nat} {ys : List Value} {fs : List α} (hys : RoC R w (fun b => S' b ∧ v.ownBlock ≠ some b) ys fs)
 (hsrc : (p = none ∧ fs = [] ∧ c = 0) ∨ ∃ a, p = some a ∧ ∀ j u, ys[j]? = some u → w.cell? (a.add j) = some u)
 (h63 : es.length + fs.length ≤ maxLen) (hbytes : (es.length + fs.length) * bytes ≤ 140737488355328) (hS : ∀ b, S b → S' b) (hnew : S' w.heap.size) :
 ∃ v' w', (Builtin.append_ #[t, t] ty #[v, .slice p fs.length c]).run P w = .ok v' w' ∧ RoG R w' S' e v' (es ++ fs) ∧ w.grownBy w' v.ownBlock ∧ (v'.ownBlock = v.ownBlock ∨ v'.ownBlock = some w.heap.size) ∧ RoG R w' S e v es := by
 obtain ⟨i, hi, hz, hs, hb⟩ := info_parts he.info
 have hsmall : es.length + fs.length ≤ 9223372036854775807 := by simp only [maxLen] at h63; omega
 have hyl : ys.length = fs.length * i.size := by rw [hys.len, hs]
 have grown : ∀ (old : Nat) (xs : List Value), RoC R w S xs es → old < es.length + fs.length → ∀ row : Option Nat,
  RoG R (w.drew.alloc (.cells (xs.toArray ++ ys.toArray ++ Builtin.zeroCells z.cells (grownCap w (es.length + fs.length) old e - (es.length + fs.length))) e)) S' e
   (.slice (some ⟨w.heap.size, 0, none⟩) (es.length + fs.length) (grownCap w (es.length + fs.length) old e)) (es ++ fs) ∧
  w.grownBy (w.drew.alloc (.cells (xs.toArray ++ ys.toArray ++ Builtin.zeroCells z.cells (grownCap w (es.length + fs.length) old e - (es.length + fs.length))) e)) row := by
  intro old xs hxs ho row
  have hge := grownCap_ge w (es.length + fs.length) old e
  have hcm := grownCap_le_maxLen w (es.length + fs.length) old e h63
  have hk : Keeps w (w.drew.alloc (.cells (xs.toArray ++ ys.toArray ++ Builtin.zeroCells z.cells (grownCap w (es.length + fs.length) old e - (es.length + fs.length))) e)) := (Keeps.refl w).drew.alloc _
  have hall : RoC R w (fun b => S' b ∧ b ≠ w.heap.size) (xs ++ ys) (es ++ fs) := (hxs.mono fun b hlt h => ⟨hS b h, by omega⟩).append (hys.mono fun b hlt h => ⟨h.1, by omega⟩)
  refine ⟨.inr ⟨w.heap.size, _, _, by rw [List.length_append], hnew, heap_alloc_new w.drew _, by rw [List.length_append]; exact hge, hcm, ?_, ?_⟩, ⟨rfl, rfl, rfl, by simp, fun k hk _ => Below.heap_alloc w.drew _ k hk⟩⟩
  · simp only [Array.size_append, List.size_toArray, size_zeroCells, he.zs, hxs.len, hys.len, ← Nat.add_mul]
    refine Nat.le_of_eq ?_
    congr 1
    omega
  · have e1 : (xs.toArray ++ ys.toArray ++ Builtin.zeroCells z.cells (grownCap w (es.length + fs.length) old e - (es.length + fs.length))).toList.take ((es ++ fs).length * R.k) = xs ++ ys := by
     simp only [Array.toList_append]
     have : (es ++ fs).length * R.k = (xs ++ ys).length := by rw [List.length_append, List.length_append, hxs.len, hys.len, Nat.add_mul]
     rw [this]
     exact List.take_left
    rw [e1]
    exact hall.keeps hk
 rcases hown with ⟨rfl, rfl⟩ | ⟨g, cap, cur, rfl, hSg, hg, hnc, hcm, hcs, hxs⟩
 · rcases hsrc with ⟨rfl, rfl, rfl⟩ | ⟨a, rfl, hnews⟩
   · refine ⟨.slice none 0 0, w, ?_, .inl ⟨rfl, rfl⟩, World.grownBy.refl _ _, .inl rfl, .inl ⟨rfl, rfl⟩⟩
     simp [Builtin.append_, run_underlying he.sl, sizeOf, typeInfo, hi, Builtin.lenOf, Builtin.firstCells]
   · by_cases hm : fs.length = 0
     · have hf : fs = [] := List.eq_nil_of_length_eq_zero hm
       subst hf
       refine ⟨.slice none 0 0, w, ?_, .inl ⟨rfl, rfl⟩, World.grownBy.refl _ _, .inl rfl, .inl ⟨rfl, rfl⟩⟩
       simp [Builtin.append_, run_underlying he.sl, sizeOf, typeInfo, hi, Builtin.lenOf, Builtin.firstCells, loadCells, loadCellsFrom]
     · have hr := run_append_nil (P := P) w t ty e i z he.sl hi hz a fs.length c ys hyl hnews (by omega) (by simp at hsmall; omega) (by have hb2 := hbytes; rw [← hb] at hb2; simp only [List.length_nil, Nat.zero_add] at hb2; omega)
       have hgr := grown 0 [] .nil (by simp; omega) (Value.ownBlock (.slice none 0 0))
       simp only [List.length_nil, Nat.zero_add, List.nil_append, Array.empty_append] at hgr ⊢
       exact ⟨_, _, hr, hgr.1, hgr.2, .inr rfl, .inl ⟨rfl, rfl⟩⟩
 · have hold : RoG R w S e (.slice (some ⟨g, 0, none⟩) es.length cap) es := .inr ⟨g, cap, cur, rfl, hSg, hg, hnc, hcm, hcs, hxs⟩
   have hxl : (cur.toList.take (es.length * R.k)).length = es.length * R.k := hxs.len
   rcases hsrc with ⟨rfl, rfl, rfl⟩ | ⟨a, rfl, hnews⟩
   · refine ⟨.slice (some ⟨g, 0, none⟩) es.length cap, w, ?_, ?_, World.grownBy.refl _ _, .inl rfl, hold⟩
     · simp [Builtin.append_, run_underlying he.sl, sizeOf, typeInfo, hi, Builtin.lenOf, Builtin.firstCells, hnc, storeCells]
     · rw [List.append_nil]
       exact .inr ⟨g, cap, cur, rfl, hS g hSg, hg, hnc, hcm, hcs, hxs.mono fun b _ h => ⟨hS b h.1, h.2⟩⟩
   · by_cases hroom : es.length + fs.length ≤ cap
     · have hfit : es.length * i.size + ys.length ≤ cur.size := by rw [hyl, hs, ← Nat.add_mul]; exact Nat.le_trans (Nat.mul_le_mul_right _ hroom) hcs
       have hr := run_append_room (P := P) w t ty e i he.sl hi g es.length cap cur hg a fs.length c ys hyl hnews hys.one hroom hfit
       refine ⟨_, _, hr, .inr ⟨g, cap, _, by rw [List.length_append], hS g hSg, setRow_heap w g cur _ e _ hg, by rw [List.length_append]; exact hroom, hcm, ?_, ?_⟩, ⟨rfl, rfl, rfl, by simp, fun k _ hk => setRow_other w g k _ (fun e => hk (by simp [Value.ownBlock, e]))⟩, .inl rfl, .inr ⟨g, cap, _, rfl, hSg, setRow_heap w g cur _ e _ hg, hnc, hcm, ?_, ?_⟩⟩
       · simp only [List.size_toArray, List.length_append, List.length_take, List.length_drop, Array.length_toList]
         omega
       · have e1 : (cur.toList.take (es.length * i.size) ++ ys ++ cur.toList.drop (es.length * i.size + ys.length)).toArray.toList.take ((es ++ fs).length * R.k) = cur.toList.take (es.length * R.k) ++ ys := by
          rw [hs]
          have : (es ++ fs).length * R.k = (cur.toList.take (es.length * R.k) ++ ys).length := by rw [List.length_append, List.length_append, hxl, hys.len, Nat.add_mul]
          simp only []
          rw [this]
          exact List.take_left
         rw [e1]
         have hsm : ∀ b, b ≠ g → (w.setRow g (cur.toList.take (es.length * i.size) ++ ys ++ cur.toList.drop (es.length * i.size + ys.length)).toArray).heap[b]? = w.heap[b]? := fun b hb => setRow_other w g b _ hb
         have k1 : RoC R w (fun b => S' b ∧ b ≠ g) (cur.toList.take (es.length * R.k)) es := hxs.mono fun b _ h => ⟨hS b h.1, h.2⟩
         have k2 : RoC R w (fun b => S' b ∧ b ≠ g) ys fs := hys.mono fun b _ h => ⟨h.1, fun e => h.2 (by simp [Value.ownBlock, e])⟩
         exact (k1.append k2).frame fun b hb => hsm b hb.2
       · simp only [List.size_toArray, List.length_append, List.length_take, List.length_drop, Array.length_toList]
         omega
       · have e1 : (cur.toList.take (es.length * i.size) ++ ys ++ cur.toList.drop (es.length * i.size + ys.length)).toArray.toList.take (es.length * R.k) = cur.toList.take (es.length * R.k) := by
          simp only []
          rw [hs, List.append_assoc, List.take_append_of_le_length (by rw [hxl]; exact Nat.le_refl _), List.take_of_length_le (by rw [hxl]; exact Nat.le_refl _)]
         rw [e1]
         exact hxs.frame fun b hb => setRow_other w g b _ hb.2
     · have hr := run_append_grow (P := P) w t ty e i z he.sl hi hz ⟨g, 0, none⟩ es.length cap (cur.toList.take (es.length * R.k)) (by rw [hxl, hs]) (fun j u hu => ?_) a fs.length c ys hyl hnews (by omega) (by omega) (growslice_fits (by omega) (by rw [hb]; exact hbytes))
       · have hgr := grown cap _ (hxs.mono fun b _ h => h.1) (by omega) (Value.ownBlock (.slice (some ⟨g, 0, none⟩) es.length cap))
         exact ⟨_, _, hr, hgr.1, hgr.2, .inr rfl, hold.keeps ((Keeps.refl w).drew.alloc _)⟩
       · rw [Addr.add_lit, cell_of_row _ _ _ _ _ _ hg, Nat.zero_add]
         rw [List.getElem?_take] at hu
         split at hu
         · simpa using hu
         · cases hu
end
end Go.Proofs.Yteellfgiejnigaa
namespace Go.Proofs.Yteellfgiejnigaa.RS
set_option linter.unusedVariables false
abbrev Log := List (Nat × List UInt8)
def tAt (l : Log) : Nat → Nat
 | 0 => 0
 | j + 1 => (l[j]?).elim 0 (·.1)
theorem tAt_succ (l : Log) (j : Nat) : tAt l (j + 1) = (l[j]?).elim 0 (·.1) := rfl
def lastT (l : Log) : Nat := tAt l l.length
theorem tAt_take {l : Log} {i k : Nat} (h : i ≤ k) : tAt (l.take k) i = tAt l i := by
 cases i with
 | zero => rfl
 | succ j =>
  rw [tAt_succ, tAt_succ, List.getElem?_take_of_lt (by omega)]
theorem tAt_prefix {a b : Log} (h : a <+: b) {i : Nat} (hi : i ≤ a.length) : tAt a i = tAt b i := by
 obtain ⟨t, rfl⟩ := h
 cases i with
 | zero => rfl
 | succ j =>
  rw [tAt_succ, tAt_succ, List.getElem?_append_left (by omega)]
theorem pre_len {a b : Log} (h : a <+: b) : a.length ≤ b.length := h.length_le
theorem pre_take {a b : Log} (h : a <+: b) : a = b.take a.length := List.prefix_iff_eq_take.1 h
theorem take_pre (l : Log) (k : Nat) : l.take k <+: l := List.take_prefix k l
theorem pre_both {a b c : Log} (h : a <+: c) (k : b <+: c) (hl : a.length ≤ b.length) : a <+: b := List.prefix_of_prefix_length_le h k hl
theorem take_of_pre {a b : Log} (h : a <+: b) {k : Nat} (hk : k ≤ a.length) : b.take k = a.take k := by
 obtain ⟨t, rfl⟩ := h
 rw [List.take_append_of_le_length hk]
theorem take_take_pre (l : Log) {j k : Nat} (h : j ≤ k) : l.take j <+: l.take k := by
 have := List.take_take (i := j) (j := k) (l := l)
 rw [Nat.min_eq_left h] at this
 rw [← this]
 exact take_pre _ _
theorem pre_of_take {a b : Log} {k : Nat} (h : a <+: b) (hk : a.length ≤ k) : a <+: b.take k := by
 rw [pre_take h]
 exact take_take_pre b hk
def Maj (n : Nat) (p : Nat → Bool) : Prop := n < 2 * (List.range n).countP p
theorem count_disj (p q : Nat → Bool) : ∀ n, (∀ i, i < n → ¬ (p i = true ∧ q i = true)) → (List.range n).countP p + (List.range n).countP q ≤ n := by
 intro n
 induction n with
 | zero => intro _; simp
 | succ n ih =>
  intro h
  have h1 := ih fun i hi => h i (by omega)
  have h2 := h n (by omega)
  rw [List.range_succ, List.countP_append, List.countP_append, List.countP_singleton, List.countP_singleton]
  cases hp : p n <;> cases hq : q n <;> simp_all <;> omega
theorem maj_meet {n : Nat} {p q : Nat → Bool} (hp : Maj n p) (hq : Maj n q) : ∃ i, i < n ∧ p i = true ∧ q i = true := by
 apply Classical.byContradiction
 intro hn
 have := count_disj p q n fun i hi hh => hn ⟨i, hi, hh.1, hh.2⟩
 unfold Maj at *
 omega
structure Good (LL : Nat → Log) (l : Log) : Prop where
 pre : ∀ k, 1 ≤ k → k ≤ l.length → l.take k <+: LL (tAt l k)
 up : ∀ j k, 1 ≤ j → j ≤ k → k ≤ l.length → tAt l j ≤ tAt l k
 pos : ∀ k, 1 ≤ k → k ≤ l.length → 1 ≤ tAt l k
theorem Good.take {LL : Nat → Log} {l : Log} (h : Good LL l) (m : Nat) : Good LL (l.take m) := by
 refine ⟨fun k h1 h2 => ?_, fun j k h1 h2 h3 => ?_, fun k h1 h2 => ?_⟩
 · rw [List.length_take] at h2
   rw [tAt_take (by omega), List.take_take, Nat.min_eq_left (by omega)]
   exact h.pre k h1 (by omega)
 · rw [List.length_take] at h3
   rw [tAt_take (by omega), tAt_take (by omega)]
   exact h.up j k h1 h2 (by omega)
 · rw [List.length_take] at h2
   rw [tAt_take (by omega)]
   exact h.pos k h1 (by omega)
theorem Good.of_pre {LL : Nat → Log} {a b : Log} (h : Good LL b) (k : a <+: b) : Good LL a := by
 rw [pre_take k]; exact h.take _
theorem Good.mono {LL LL' : Nat → Log} {l : Log} (h : Good LL l) (hx : ∀ T, LL T <+: LL' T) : Good LL' l :=
 ⟨fun k h1 h2 => (h.pre k h1 h2).trans (hx _), h.up, h.pos⟩
theorem good_nil (LL : Nat → Log) : Good LL [] := ⟨fun k h1 h2 => by simp at h2; omega, fun j k h1 h2 h3 => by simp at h3; omega, fun k h1 h2 => by simp at h2; omega⟩
theorem Good.agree {LL : Nat → Log} {a b : Log} (ha : Good LL a) (hb : Good LL b) {k : Nat} (h1 : 1 ≤ k) (h2 : k ≤ a.length) (h3 : k ≤ b.length) (ht : tAt a k = tAt b k) : a.take k = b.take k := by
 have p := ha.pre k h1 h2
 have q := hb.pre k h1 h3
 rw [← ht] at q
 have h := pre_both p q (by rw [List.length_take, List.length_take]; omega)
 have := pre_take h
 rw [List.length_take, Nat.min_eq_left h2, List.take_take, Nat.min_self] at this
 exact this
theorem Good.last {LL : Nat → Log} {l : Log} (h : Good LL l) (hl : 1 ≤ l.length) : l <+: LL (lastT l) := by
 have := h.pre l.length hl (Nat.le_refl _)
 rwa [List.take_length] at this
theorem Good.le_last {LL : Nat → Log} {l : Log} (h : Good LL l) {k : Nat} (h1 : 1 ≤ k) (h2 : k ≤ l.length) : tAt l k ≤ lastT l := h.up k l.length h1 h2 (Nat.le_refl _)
def Lle (X Y : Log) : Prop := lastT X < lastT Y ∨ lastT X = lastT Y ∧ X.length ≤ Y.length
structure Gh where
 LL : Nat → Log
 CL : Nat → Log
 Ld : Nat → Option Nat
 V : Nat → Nat → Option Nat
 VL : Nat → Nat → Option Log
 A : Nat → Nat → Nat
 K : Nat → Prop
structure Nd where
 term : Nat
 who : Option Nat
 role : Nat
 log : Log
 commit : Nat
 sides : Nat → Bool
 mt : Nat → Nat
def IsC (n : Nat) (G : Gh) (T : Nat) (X : Log) : Prop :=
 G.K T ∧ ∃ k p, Maj n p ∧ (∀ q, q < n → p q = true → k ≤ G.A T q) ∧ 1 ≤ k ∧ k ≤ (G.LL T).length ∧ tAt (G.LL T) k = T ∧ X = (G.LL T).take k
def ComC (n : Nat) (G : Gh) (U : Nat) (l : Log) : Prop := l = [] ∨ ∃ T X, T ≤ U ∧ IsC n G T X ∧ l <+: X
def Lost (G : Gh) (T k U : Nat) : Prop := ∃ T', T < T' ∧ T' < U ∧ G.Ld T' ≠ none ∧ ¬ (G.LL T).take k <+: G.CL T'
structure Inv (n : Nat) (G : Gh) (nd : Nat → Nd) : Prop where
 good : ∀ i, i < n → Good G.LL (nd i).log
 below : ∀ i, i < n → ∀ k, k ≤ (nd i).log.length → tAt (nd i).log k ≤ (nd i).term
 ld0 : ∀ T, G.Ld T = none → G.LL T = []
 ldc : ∀ T c, G.Ld T = some c → c < n ∧ T ≤ (nd c).term ∧ 1 ≤ T ∧ Good G.LL (G.CL T) ∧ (∀ k, k ≤ (G.CL T).length → tAt (G.CL T) k < T) ∧ G.CL T <+: G.LL T ∧ ∀ k, (G.CL T).length < k → k ≤ (G.LL T).length → tAt (G.LL T) k = T
 votes : ∀ T i c, i < n → G.V T i = some c → c < n ∧ T ≤ (nd i).term ∧ T ≤ (nd c).term
 who : ∀ i, i < n → (nd i).who = G.V (nd i).term i
 quo : ∀ T c, G.Ld T = some c → ∃ p, Maj n p ∧ ∀ q, q < n → p q = true → G.V T q = some c ∧ ∃ X, G.VL T q = some X ∧ Lle X (G.CL T)
 vlg : ∀ U q X, q < n → G.VL U q = some X → Good G.LL X ∧ G.V U q ≠ none
 vcand : ∀ T q c, q < n → G.V T q = some c → G.Ld T = none → ∃ X, G.VL T q = some X ∧ ((nd c).term = T → (nd c).role = 2 → Lle X (nd c).log)
 ackb : ∀ T q, q < n → G.A T q ≤ (G.LL T).length ∧ (0 < G.A T q → T ≤ (nd q).term)
 keep : ∀ T q k, q < n → 1 ≤ k → k ≤ G.A T q → (G.LL T).take k <+: (nd q).log ∨ Lost G T k ((nd q).term + 1)
 vkeep : ∀ U q X T k, q < n → G.VL U q = some X → T < U → 1 ≤ k → k ≤ G.A T q → (G.LL T).take k <+: X ∨ Lost G T k U
 lead : ∀ i, i < n → (nd i).role = 3 → G.Ld (nd i).term = some i ∧ (nd i).log = G.LL (nd i).term ∧ G.A (nd i).term i = (nd i).log.length ∧ ∀ q, q < n → q ≠ i → (nd i).mt q ≤ G.A (nd i).term q
 cand : ∀ i, i < n → (nd i).role = 2 → G.V (nd i).term i = some i ∧ G.Ld (nd i).term ≠ some i ∧ (∀ k, k ≤ (nd i).log.length → tAt (nd i).log k < (nd i).term) ∧ ∀ q, q < n → (nd i).sides q = true → G.V (nd i).term q = some i
 com : ∀ i, i < n → (nd i).commit ≤ (nd i).log.length ∧ ComC n G (nd i).term ((nd i).log.take (nd i).commit)
section
variable {n : Nat} {G : Gh} {nd : Nat → Nd}
theorem Inv.led {T : Nat} (I : Inv n G nd) (h : G.LL T ≠ []) : ∃ c, G.Ld T = some c := by
 cases hx : G.Ld T with
 | none => exact absurd (I.ld0 T hx) h
 | some c => exact ⟨c, rfl⟩
theorem Inv.complete (I : Inv n G nd) {T : Nat} {X : Log} (hX : IsC n G T X) : ∀ U, T < U → G.Ld U ≠ none → X <+: G.CL U := by
 obtain ⟨_, k, p, hp, ha, h1, h2, ht, rfl⟩ := hX
 intro U
 induction U using Nat.strongRecOn with
 | _ U ih =>
  intro hTU hU
  obtain ⟨c, hc⟩ := Option.ne_none_iff_exists'.1 hU
  obtain ⟨_, _, _, hgU, hltU, hpreU, _⟩ := I.ldc U c hc
  obtain ⟨p', hp', hq'⟩ := I.quo U c hc
  obtain ⟨q, hqn, hq1, hq2⟩ := maj_meet hp hp'
  obtain ⟨_, Y, hY, hle⟩ := hq' q hqn hq2
  have hgY := (I.vlg U q Y hqn hY).1
  have hPY : (G.LL T).take k <+: Y := by
   rcases I.vkeep U q Y T k hqn hY hTU h1 (ha q hqn hq1) with h | ⟨T', a1, a2, a3, a4⟩
   · exact h
   · exact absurd (ih T' a2 a1 a3) a4
  have hlenP : ((G.LL T).take k).length = k := by rw [List.length_take]; omega
  have hkY : k ≤ Y.length := by have := pre_len hPY; omega
  have htP : tAt ((G.LL T).take k) k = T := by rw [tAt_take (Nat.le_refl _)]; exact ht
  have htY : tAt Y k = T := by rw [← tAt_prefix hPY (by omega)]; exact htP
  have hlastY : T ≤ lastT Y := by rw [← htY]; exact hgY.le_last h1 hkY
  have hT1 : 1 ≤ T := by rw [← htY]; exact hgY.pos k h1 hkY
  rcases hle with hlt | ⟨heq, hlen⟩
  · have hne : 1 ≤ (G.CL U).length := by
     by_cases h0 : (G.CL U).length = 0
     · exfalso
       have : lastT (G.CL U) = 0 := by unfold lastT; rw [h0]; rfl
       omega
     · omega
    have hW := hgU.last hne
    have hWU : lastT (G.CL U) < U := hltU _ (Nat.le_refl _)
    have hLW : G.LL (lastT (G.CL U)) ≠ [] := fun e => by
     rw [e] at hW
     have := pre_len hW
     rw [List.length_nil] at this
     omega
    obtain ⟨d, hd⟩ := I.led hLW
    have hCW := ih (lastT (G.CL U)) hWU (by omega) (by rw [hd]; simp)
    have hCL := hCW.trans (I.ldc _ d hd).2.2.2.2.2.1
    by_cases hk : k ≤ (G.CL U).length
    · exact pre_both hCL hW (by omega)
    · exfalso
      have hCP := pre_both hW hCL (by omega)
      have e1 : lastT (G.CL U) = tAt ((G.LL T).take k) (G.CL U).length := tAt_prefix hCP (Nat.le_refl _)
      have e2 : tAt ((G.LL T).take k) (G.CL U).length = tAt Y (G.CL U).length := tAt_prefix hPY (by omega)
      have e3 := hgY.up (G.CL U).length k hne (by omega) hkY
      omega
  · have hY1 : 1 ≤ Y.length := by omega
    have hC1 : 1 ≤ (G.CL U).length := by omega
    have a := hgY.last hY1
    have b := hgU.last hC1
    rw [← heq] at b
    exact hPY.trans (pre_both a b hlen)
theorem IsC.ne {T : Nat} {X : Log} (h : IsC n G T X) : G.LL T ≠ [] := by
 obtain ⟨_, k, p, _, _, h1, h2, _⟩ := h
 intro e
 rw [e] at h2
 simp at h2
 omega
theorem Inv.has (I : Inv n G nd) {T U : Nat} {X : Log} (hX : IsC n G T X) (hTU : T ≤ U) (hU : G.Ld U ≠ none) : X <+: G.LL U := by
 by_cases e : T = U
 · subst e
   obtain ⟨_, k, p, _, _, _, _, _, rfl⟩ := hX
   exact take_pre _ _
 · obtain ⟨c, hc⟩ := Option.ne_none_iff_exists'.1 hU
   exact (I.complete hX U (by omega) hU).trans (I.ldc U c hc).2.2.2.2.2.1
theorem Inv.comp (I : Inv n G nd) {T U : Nat} {X Y : Log} (hX : IsC n G T X) (hY : IsC n G U Y) : X <+: Y ∨ Y <+: X := by
 have key : ∀ {T U : Nat} {X Y : Log}, IsC n G T X → IsC n G U Y → T ≤ U → X <+: Y ∨ Y <+: X := by
  intro T U X Y hX hY h
  obtain ⟨c, hc⟩ := I.led hY.ne
  have a := I.has hX h (by rw [hc]; simp)
  obtain ⟨_, k, p, _, _, _, _, _, rfl⟩ := hY
  by_cases hl : X.length ≤ ((G.LL U).take k).length
  · exact .inl (pre_both a (take_pre _ _) hl)
  · exact .inr (pre_both (take_pre _ _) a (by omega))
 by_cases h : T ≤ U
 · exact key hX hY h
 · exact (key hY hX (by omega)).symm
theorem ComC.mono {U U' : Nat} {l : Log} (h : ComC n G U l) (hu : U ≤ U') : ComC n G U' l := by
 rcases h with h | ⟨T, X, h1, h2, h3⟩
 · exact .inl h
 · exact .inr ⟨T, X, by omega, h2, h3⟩
theorem ComC.of_pre {U : Nat} {a b : Log} (h : ComC n G U b) (k : a <+: b) : ComC n G U a := by
 rcases h with rfl | ⟨T, X, h1, h2, h3⟩
 · exact .inl (List.prefix_nil.1 k)
 · exact .inr ⟨T, X, h1, h2, k.trans h3⟩
theorem Inv.com_has (I : Inv n G nd) {U W : Nat} {l : Log} (h : ComC n G U l) (hu : U ≤ W) (hW : G.Ld W ≠ none) : l <+: G.LL W := by
 rcases h with rfl | ⟨T, X, h1, h2, h3⟩
 · exact List.nil_prefix
 · exact h3.trans (I.has h2 (by omega) hW)
theorem Inv.com_comp (I : Inv n G nd) {U W : Nat} {a b : Log} (h : ComC n G U a) (k : ComC n G W b) : a <+: b ∨ b <+: a := by
 rcases h with rfl | ⟨T, X, h1, h2, h3⟩
 · exact .inl List.nil_prefix
 · rcases k with rfl | ⟨T', Y, k1, k2, k3⟩
   · exact .inr List.nil_prefix
   · have key : ∀ {Z : Log}, a <+: Z → b <+: Z → a <+: b ∨ b <+: a := by
      intro Z p q
      by_cases hl : a.length ≤ b.length
      · exact .inl (pre_both p q hl)
      · exact .inr (pre_both q p (by omega))
     rcases I.comp h2 k2 with h | h
     · exact key (h3.trans h) k3
     · exact key h3 (k3.trans h)
end
end Go.Proofs.Yteellfgiejnigaa.RS
