/- Rows of records of one size: read, and added to. -/
import Derived.Test.YteellfgiejnigaaQnL2
namespace Go.Proofs.Yteellfgiejnigaa
open Go.ChangeShapes Go.WideShapes Go.ChangeAt Go.RowKit
set_option linter.unusedVariables false
/-- How a thing lies in the cells of an element. -/
structure Rep (α : Type) where
  k : Nat
  rel : World → Foot → α → List Value → Prop
  len : ∀ {w : World} {S : Foot} {x : α} {cs : List Value}, rel w S x cs → cs.length = k
  one : ∀ {w : World} {S : Foot} {x : α} {cs : List Value}, rel w S x cs → ∀ u ∈ cs, u.oneCell' = true
  frame : ∀ {w w' : World} {S : Foot} {x : α} {cs : List Value}, rel w S x cs → SameOn S w w' → rel w' S x cs
  mono : ∀ {w : World} {S S' : Foot} {x : α} {cs : List Value}, rel w S x cs → (∀ b, b < w.heap.size → S b → S' b) → rel w S' x cs
  keeps : ∀ {w w' : World} {S : Foot} {x : α} {cs : List Value}, rel w S x cs → Keeps w w' → rel w' S x cs
section
variable {α : Type} {R : Rep α} {w w' : World} {S S' : Foot}
/-- These cells are these things. -/
inductive RoC (R : Rep α) (w : World) (S : Foot) : List Value → List α → Prop
  | nil : RoC R w S [] []
  | cons {x : α} {cs xs : List Value} {l : List α} (hx : R.rel w S x cs) (h : RoC R w S xs l) : RoC R w S (cs ++ xs) (x :: l)
theorem RoC.len {xs : List Value} {l : List α} (h : RoC R w S xs l) : xs.length = l.length * R.k := by
  induction h with
  | nil => simp
  | cons hx h ih => rw [List.length_append, List.length_cons, ih, R.len hx, Nat.add_mul, Nat.one_mul, Nat.add_comm]
theorem RoC.frame {xs : List Value} {l : List α} (h : RoC R w S xs l) (hs : SameOn S w w') : RoC R w' S xs l := by
  induction h with
  | nil => exact .nil
  | cons hx h ih => exact .cons (R.frame hx hs) ih
theorem RoC.mono {xs : List Value} {l : List α} (h : RoC R w S xs l) (hs : ∀ b, b < w.heap.size → S b → S' b) : RoC R w S' xs l := by
  induction h with
  | nil => exact .nil
  | cons hx h ih => exact .cons (R.mono hx hs) ih
theorem RoC.keeps {xs : List Value} {l : List α} (h : RoC R w S xs l) (hk : Keeps w w') : RoC R w' S xs l := by
  induction h with
  | nil => exact .nil
  | cons hx h ih => exact .cons (R.keeps hx hk) ih
theorem RoC.append {xs ys : List Value} {l m : List α} (h : RoC R w S xs l) (k : RoC R w S ys m) : RoC R w S (xs ++ ys) (l ++ m) := by
  induction h with
  | nil => exact k
  | cons hx h ih => rw [List.append_assoc]; exact .cons hx ih
theorem RoC.one {xs : List Value} {l : List α} (h : RoC R w S xs l) : ∀ u ∈ xs, u.oneCell' = true := by
  induction h with
  | nil => intro u hu; cases hu
  | cons hx h ih =>
    intro u hu
    rcases List.mem_append.1 hu with hu | hu
    · exact R.one hx u hu
    · exact ih u hu
theorem RoC.at {xs : List Value} {l : List α} (h : RoC R w S xs l) : ∀ (i : Nat) (hi : i < l.length), ∃ cs, R.rel w S l[i] cs ∧ ∀ j u, cs[j]? = some u → xs[i * R.k + j]? = some u := by
  induction h with
  | nil => intro i hi; simp at hi
  | @cons x cs xs l hx h ih =>
    intro i hi
    match i with
    | 0 =>
      refine ⟨cs, hx, fun j u hu => ?_⟩
      rw [Nat.zero_mul, Nat.zero_add, List.getElem?_append_left (List.getElem?_eq_some_iff.1 hu).1]; exact hu
    | i + 1 =>
      obtain ⟨ds, h1, h2⟩ := ih i (by simpa using hi)
      refine ⟨ds, h1, fun j u hu => ?_⟩
      rw [List.getElem?_append_right (by rw [R.len hx, Nat.add_mul, Nat.one_mul]; omega), R.len hx, show (i + 1) * R.k + j - R.k = i * R.k + j by rw [Nat.add_mul, Nat.one_mul]; omega]
      exact h2 j u hu
theorem RoC.take {xs : List Value} {l : List α} (h : RoC R w S xs l) : ∀ n, RoC R w S (xs.take (n * R.k)) (l.take n) := by
  induction h with
  | nil => intro n; simp; exact .nil
  | @cons x cs xs l hx h ih =>
    intro n
    match n with
    | 0 => simp; exact .nil
    | n + 1 =>
      have := R.len hx
      rw [Nat.add_mul, Nat.one_mul, List.take_append, List.take_of_length_le (by omega), show n * R.k + R.k - cs.length = n * R.k by omega]
      exact .cons hx (ih n)
theorem RoC.drop {xs : List Value} {l : List α} (h : RoC R w S xs l) : ∀ n, RoC R w S (xs.drop (n * R.k)) (l.drop n) := by
  induction h with
  | nil => intro n; simp; exact .nil
  | @cons x cs xs l hx h ih =>
    intro n
    match n with
    | 0 => simp; exact .cons hx h
    | n + 1 =>
      have := R.len hx
      rw [Nat.add_mul, Nat.one_mul, List.drop_append, List.drop_eq_nil_of_le (by omega), show n * R.k + R.k - cs.length = n * R.k by omega]
      exact ih n
/-- The value reads as these things. -/
def RoR (R : Rep α) (w : World) (S : Foot) (v : Value) (l : List α) : Prop :=
  ∃ p c xs, v = .slice p l.length c ∧ l.length ≤ c ∧ c ≤ maxLen ∧ (p = none → c = 0) ∧ RoC R w S xs l ∧ (l ≠ [] → ∃ b off, p = some ⟨b, off, none⟩ ∧ S b ∧ b < w.heap.size ∧ ∀ j u, xs[j]? = some u → w.cell? ⟨b, off + j, none⟩ = some u)
theorem RoR.frame {v : Value} {l : List α} (h : RoR R w S v l) (hs : SameOn S w w') : RoR R w' S v l := by
  obtain ⟨p, c, xs, rfl, h1, h2, h3, h4, h5⟩ := h
  refine ⟨p, c, xs, rfl, h1, h2, h3, h4.frame hs, fun hl => ?_⟩
  obtain ⟨b, off, rfl, hb, hlt, hc⟩ := h5 hl
  exact ⟨b, off, rfl, hb, lt_same hlt (hs b hb), fun j u hu => by rw [World.cell?_of_block (a := ⟨b, off + j, none⟩) (hs b hb)]; exact hc j u hu⟩
theorem RoR.keeps {v : Value} {l : List α} (h : RoR R w S v l) (hs : Keeps w w') : RoR R w' S v l := by
  obtain ⟨p, c, xs, rfl, h1, h2, h3, h4, h5⟩ := h
  refine ⟨p, c, xs, rfl, h1, h2, h3, h4.keeps hs, fun hl => ?_⟩
  obtain ⟨b, off, rfl, hb, hlt, hc⟩ := h5 hl
  exact ⟨b, off, rfl, hb, Nat.lt_of_lt_of_le hlt (keeps_lt hs), fun j u hu => hs.cell (hc j u hu)⟩
theorem RoR.mono {v : Value} {l : List α} (h : RoR R w S v l) (hs : ∀ b, b < w.heap.size → S b → S' b) : RoR R w S' v l := by
  obtain ⟨p, c, xs, rfl, h1, h2, h3, h4, h5⟩ := h
  refine ⟨p, c, xs, rfl, h1, h2, h3, h4.mono hs, fun hl => ?_⟩
  obtain ⟨b, off, rfl, hb, hlt, hc⟩ := h5 hl
  exact ⟨b, off, rfl, hs b hlt hb, hlt, hc⟩
theorem RoR.nil (w : World) (S : Foot) : RoR R w S (.slice none 0 0) [] := ⟨none, 0, [], rfl, Nat.le_refl _, by decide, fun _ => rfl, .nil, fun h => absurd rfl h⟩
theorem RoR.form {v : Value} {l : List α} (h : RoR R w S v l) : ∃ p c, v = .slice p l.length c := by obtain ⟨p, c, xs, e, _⟩ := h; exact ⟨p, c, e⟩
theorem RoR.elem {v : Value} {l : List α} (h : RoR R w S v l) (i : Nat) (hi : i < l.length) : ∃ b off c cs, v = .slice (some ⟨b, off, none⟩) l.length c ∧ S b ∧ b < w.heap.size ∧ w.rangeAt b (off + i * R.k) cs ∧ R.rel w S l[i] cs := by
  obtain ⟨p, c, xs, rfl, h1, h2, h3, h4, h5⟩ := h
  obtain ⟨b, off, rfl, hb, hlt, hc⟩ := h5 (by intro e; subst e; simp at hi)
  obtain ⟨cs, q1, q2⟩ := h4.at i hi
  refine ⟨b, off, c, cs, rfl, hb, hlt, fun j u hu => ?_, q1⟩
  rw [Nat.add_assoc]
  exact hc _ _ (q2 j u hu)
/-- The value is a row of these things that may be added to: what they hold lies elsewhere. -/
def RoG (R : Rep α) (w : World) (S : Foot) (e : TypeId) (v : Value) (l : List α) : Prop :=
  (v = .slice none 0 0 ∧ l = []) ∨
  ∃ g cap cur, v = .slice (some ⟨g, 0, none⟩) l.length cap ∧ S g ∧ w.heap[g]? = some (.cells cur e (0, 0)) ∧ l.length ≤ cap ∧ cap ≤ maxLen ∧ cap * R.k ≤ cur.size ∧ RoC R w (fun b => S b ∧ b ≠ g) (cur.toList.take (l.length * R.k)) l
variable {e : TypeId}
theorem RoG.form {v : Value} {l : List α} (h : RoG R w S e v l) : ∃ p c, v = .slice p l.length c := by
  rcases h with ⟨rfl, rfl⟩ | ⟨g, cap, cur, rfl, _⟩
  · exact ⟨none, 0, rfl⟩
  · exact ⟨_, _, rfl⟩
theorem RoG.frame {v : Value} {l : List α} (h : RoG R w S e v l) (hs : SameOn S w w') : RoG R w' S e v l := by
  rcases h with h | ⟨g, cap, cur, rfl, hg, hh, h1, h2, h3, h4⟩
  · exact .inl h
  · exact .inr ⟨g, cap, cur, rfl, hg, by rw [hs g hg]; exact hh, h1, h2, h3, h4.frame fun b hb => hs b hb.1⟩
theorem RoG.keeps {v : Value} {l : List α} (h : RoG R w S e v l) (hs : Keeps w w') : RoG R w' S e v l := by
  rcases h with h | ⟨g, cap, cur, rfl, hg, hh, h1, h2, h3, h4⟩
  · exact .inl h
  · exact .inr ⟨g, cap, cur, rfl, hg, by rw [hs g (Array.getElem?_eq_some_iff.1 hh).1]; exact hh, h1, h2, h3, h4.keeps hs⟩
theorem RoG.mono {v : Value} {l : List α} (h : RoG R w S e v l) (hs : ∀ b, b < w.heap.size → S b → S' b) : RoG R w S' e v l := by
  rcases h with h | ⟨g, cap, cur, rfl, hg, hh, h1, h2, h3, h4⟩
  · exact .inl h
  · exact .inr ⟨g, cap, cur, rfl, hs g (Array.getElem?_eq_some_iff.1 hh).1 hg, hh, h1, h2, h3, h4.mono fun b hlt hb => ⟨hs b hlt hb.1, hb.2⟩⟩
theorem RoG.rd {v : Value} {l : List α} (h : RoG R w S e v l) : RoR R w S v l := by
  rcases h with ⟨rfl, rfl⟩ | ⟨g, cap, cur, rfl, hg, hh, h1, h2, h3, h4⟩
  · exact RoR.nil w S
  · refine ⟨_, cap, _, rfl, h1, h2, (fun h => by cases h), h4.mono fun b _ hb => hb.1, fun _ => ⟨g, 0, rfl, hg, (Array.getElem?_eq_some_iff.1 hh).1, fun j u hu => ?_⟩⟩
    rw [cell_of_row _ _ _ _ _ _ hh, Nat.zero_add]
    rw [List.getElem?_take] at hu
    split at hu
    · simpa using hu
    · cases hu
theorem RoG.foot {v : Value} {l : List α} (h : RoG R w S e v l) : ∀ g, v.ownBlock = some g → S g ∧ g < w.heap.size := by
  rcases h with ⟨rfl, rfl⟩ | ⟨g, cap, cur, rfl, hg, hh, _⟩
  · intro g e; cases e
  · intro g' e; cases e; exact ⟨hg, (Array.getElem?_eq_some_iff.1 hh).1⟩
/-- append: in place, or in a new row. -/
theorem run_append_rog {P : Program} {t ty : TypeId} {z : Value} {bytes : Nat} (he : Elem P t e z R.k bytes)
    {v : Value} {es : List α} (hown : RoG R w S e v es) {p : Option Addr} {c : Nat} {ys : List Value} {fs : List α} (hys : RoC R w (fun b => S' b ∧ v.ownBlock ≠ some b) ys fs)
    (hsrc : (p = none ∧ fs = [] ∧ c = 0) ∨ ∃ a, p = some a ∧ ∀ j u, ys[j]? = some u → w.cell? (a.add j) = some u)
    (h63 : es.length + fs.length ≤ maxLen) (hbytes : (es.length + fs.length) * bytes ≤ 140737488355328) (hS : ∀ b, S b → S' b) (hnew : S' w.heap.size) :
    ∃ v' w', (Builtin.append_ #[t, t] ty #[v, .slice p fs.length c]).run P w = .ok v' w' ∧ RoG R w' S' e v' (es ++ fs) ∧ w.grownBy w' v.ownBlock ∧ (v'.ownBlock = v.ownBlock ∨ v'.ownBlock = some w.heap.size) ∧ RoG R w' S e v es := by
  obtain ⟨i, hi, hz, hs, hb⟩ := info_parts he.info
  have hsmall : es.length + fs.length ≤ 9223372036854775807 := by simp only [maxLen] at h63; omega
  have hyl : ys.length = fs.length * i.size := by rw [hys.len, hs]
  have grown : ∀ (old : Nat) (xs : List Value), RoC R w S xs es → old < es.length + fs.length → ∀ row : Option Nat,
      RoG R (w.drew.alloc (.cells (xs.toArray ++ ys.toArray ++ Builtin.zeroCells z.cells (grownCap w (es.length + fs.length) old e - (es.length + fs.length))) e)) S' e
        (.slice (some ⟨w.heap.size, 0, none⟩) (es.length + fs.length) (grownCap w (es.length + fs.length) old e)) (es ++ fs) ∧
      w.grownBy (w.drew.alloc (.cells (xs.toArray ++ ys.toArray ++ Builtin.zeroCells z.cells (grownCap w (es.length + fs.length) old e - (es.length + fs.length))) e)) row := by
    intro old xs hxs ho row
    have hge := grownCap_ge w (es.length + fs.length) old e
    have hcm := grownCap_le_maxLen w (es.length + fs.length) old e h63
    have hk : Keeps w (w.drew.alloc (.cells (xs.toArray ++ ys.toArray ++ Builtin.zeroCells z.cells (grownCap w (es.length + fs.length) old e - (es.length + fs.length))) e)) := (Keeps.refl w).drew.alloc _
    have hall : RoC R w (fun b => S' b ∧ b ≠ w.heap.size) (xs ++ ys) (es ++ fs) := (hxs.mono fun b hlt h => ⟨hS b h, by omega⟩).append (hys.mono fun b hlt h => ⟨h.1, by omega⟩)
    refine ⟨.inr ⟨w.heap.size, _, _, by rw [List.length_append], hnew, heap_alloc_new w.drew _, by rw [List.length_append]; exact hge, hcm, ?_, ?_⟩, ⟨rfl, rfl, rfl, by simp, fun k hk _ => Below.heap_alloc w.drew _ k hk⟩⟩
    · simp only [Array.size_append, List.size_toArray, size_zeroCells, he.zs, hxs.len, hys.len, ← Nat.add_mul]
      refine Nat.le_of_eq ?_
      congr 1
      omega
    · have e1 : (xs.toArray ++ ys.toArray ++ Builtin.zeroCells z.cells (grownCap w (es.length + fs.length) old e - (es.length + fs.length))).toList.take ((es ++ fs).length * R.k) = xs ++ ys := by
        simp only [Array.toList_append]
        have : (es ++ fs).length * R.k = (xs ++ ys).length := by rw [List.length_append, List.length_append, hxs.len, hys.len, Nat.add_mul]
        rw [this]
        exact List.take_left
      rw [e1]
      exact hall.keeps hk
  rcases hown with ⟨rfl, rfl⟩ | ⟨g, cap, cur, rfl, hSg, hg, hnc, hcm, hcs, hxs⟩
  · rcases hsrc with ⟨rfl, rfl, rfl⟩ | ⟨a, rfl, hnews⟩
    · refine ⟨.slice none 0 0, w, ?_, .inl ⟨rfl, rfl⟩, World.grownBy.refl _ _, .inl rfl, .inl ⟨rfl, rfl⟩⟩
      simp [Builtin.append_, run_underlying he.sl, sizeOf, typeInfo, hi, Builtin.lenOf, Builtin.firstCells]
    · by_cases hm : fs.length = 0
      · have hf : fs = [] := List.eq_nil_of_length_eq_zero hm
        subst hf
        refine ⟨.slice none 0 0, w, ?_, .inl ⟨rfl, rfl⟩, World.grownBy.refl _ _, .inl rfl, .inl ⟨rfl, rfl⟩⟩
        simp [Builtin.append_, run_underlying he.sl, sizeOf, typeInfo, hi, Builtin.lenOf, Builtin.firstCells, loadCells, loadCellsFrom]
      · have hr := run_append_nil (P := P) w t ty e i z he.sl hi hz a fs.length c ys hyl hnews (by omega) (by simp at hsmall; omega) (by have hb2 := hbytes; rw [← hb] at hb2; simp only [List.length_nil, Nat.zero_add] at hb2; omega)
        have hgr := grown 0 [] .nil (by simp; omega) (Value.ownBlock (.slice none 0 0))
        simp only [List.length_nil, Nat.zero_add, List.nil_append, Array.empty_append] at hgr ⊢
        exact ⟨_, _, hr, hgr.1, hgr.2, .inr rfl, .inl ⟨rfl, rfl⟩⟩
  · have hold : RoG R w S e (.slice (some ⟨g, 0, none⟩) es.length cap) es := .inr ⟨g, cap, cur, rfl, hSg, hg, hnc, hcm, hcs, hxs⟩
    have hxl : (cur.toList.take (es.length * R.k)).length = es.length * R.k := hxs.len
    rcases hsrc with ⟨rfl, rfl, rfl⟩ | ⟨a, rfl, hnews⟩
    · refine ⟨.slice (some ⟨g, 0, none⟩) es.length cap, w, ?_, ?_, World.grownBy.refl _ _, .inl rfl, hold⟩
      · simp [Builtin.append_, run_underlying he.sl, sizeOf, typeInfo, hi, Builtin.lenOf, Builtin.firstCells, hnc, storeCells]
      · rw [List.append_nil]
        exact .inr ⟨g, cap, cur, rfl, hS g hSg, hg, hnc, hcm, hcs, hxs.mono fun b _ h => ⟨hS b h.1, h.2⟩⟩
    · by_cases hroom : es.length + fs.length ≤ cap
      · have hfit : es.length * i.size + ys.length ≤ cur.size := by rw [hyl, hs, ← Nat.add_mul]; exact Nat.le_trans (Nat.mul_le_mul_right _ hroom) hcs
        have hr := run_append_room (P := P) w t ty e i he.sl hi g es.length cap cur hg a fs.length c ys hyl hnews hys.one hroom hfit
        refine ⟨_, _, hr, .inr ⟨g, cap, _, by rw [List.length_append], hS g hSg, setRow_heap w g cur _ e _ hg, by rw [List.length_append]; exact hroom, hcm, ?_, ?_⟩, ⟨rfl, rfl, rfl, by simp, fun k _ hk => setRow_other w g k _ (fun e => hk (by simp [Value.ownBlock, e]))⟩, .inl rfl, .inr ⟨g, cap, _, rfl, hSg, setRow_heap w g cur _ e _ hg, hnc, hcm, ?_, ?_⟩⟩
        · simp only [List.size_toArray, List.length_append, List.length_take, List.length_drop, Array.length_toList]
          omega
        · have e1 : (cur.toList.take (es.length * i.size) ++ ys ++ cur.toList.drop (es.length * i.size + ys.length)).toArray.toList.take ((es ++ fs).length * R.k) = cur.toList.take (es.length * R.k) ++ ys := by
            rw [hs]
            have : (es ++ fs).length * R.k = (cur.toList.take (es.length * R.k) ++ ys).length := by rw [List.length_append, List.length_append, hxl, hys.len, Nat.add_mul]
            simp only []
            rw [this]
            exact List.take_left
          rw [e1]
          have hsm : ∀ b, b ≠ g → (w.setRow g (cur.toList.take (es.length * i.size) ++ ys ++ cur.toList.drop (es.length * i.size + ys.length)).toArray).heap[b]? = w.heap[b]? := fun b hb => setRow_other w g b _ hb
          have k1 : RoC R w (fun b => S' b ∧ b ≠ g) (cur.toList.take (es.length * R.k)) es := hxs.mono fun b _ h => ⟨hS b h.1, h.2⟩
          have k2 : RoC R w (fun b => S' b ∧ b ≠ g) ys fs := hys.mono fun b _ h => ⟨h.1, fun e => h.2 (by simp [Value.ownBlock, e])⟩
          exact (k1.append k2).frame fun b hb => hsm b hb.2
        · simp only [List.size_toArray, List.length_append, List.length_take, List.length_drop, Array.length_toList]
          omega
        · have e1 : (cur.toList.take (es.length * i.size) ++ ys ++ cur.toList.drop (es.length * i.size + ys.length)).toArray.toList.take (es.length * R.k) = cur.toList.take (es.length * R.k) := by
            simp only []
            rw [hs, List.append_assoc, List.take_append_of_le_length (by rw [hxl]; exact Nat.le_refl _), List.take_of_length_le (by rw [hxl]; exact Nat.le_refl _)]
          rw [e1]
          exact hxs.frame fun b hb => setRow_other w g b _ hb.2
      · have hr := run_append_grow (P := P) w t ty e i z he.sl hi hz ⟨g, 0, none⟩ es.length cap (cur.toList.take (es.length * R.k)) (by rw [hxl, hs]) (fun j u hu => ?_) a fs.length c ys hyl hnews (by omega) (by omega) (growslice_fits (by omega) (by rw [hb]; exact hbytes))
        · have hgr := grown cap _ (hxs.mono fun b _ h => h.1) (by omega) (Value.ownBlock (.slice (some ⟨g, 0, none⟩) es.length cap))
          exact ⟨_, _, hr, hgr.1, hgr.2, .inr rfl, hold.keeps ((Keeps.refl w).drew.alloc _)⟩
        · rw [Addr.add_lit, cell_of_row _ _ _ _ _ _ hg, Nat.zero_add]
          rw [List.getElem?_take] at hu
          split at hu
          · simpa using hu
          · cases hu
end
end Go.Proofs.Yteellfgiejnigaa
