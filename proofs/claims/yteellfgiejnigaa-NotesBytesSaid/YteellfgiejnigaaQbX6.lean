/- The document's way to read a note: what is carried. -/
import Derived.Test.YteellfgiejnigaaQbX5
namespace Go.Proofs.Yteellfgiejnigaa
open Go.ChangeShapes Go.WideShapes Go.ChangeAt Go.RowKit
set_option linter.unusedVariables false
/-- The reader (behind the result), the note (behind the reader), the result. -/
structure NF (w W : World) (v : Value) (b : List UInt8) (s : Rd.St) (cs : Array Value) : Prop where
  rd : RAt W (w.heap.size + 1) 137 b s.1 s.2 w.heap.size
  x : W.heap[w.heap.size + 1 + 1]? = some (.cells cs 31)
  rz : W.heap[w.heap.size]? = some (.cells zN 31)
  below : Below w.heap.size w W
  bs : RdB W v b
section
variable {w W W' : World} {v : Value} {b : List UInt8} {s : Rd.St} {cs : Array Value}
theorem NF.keep (h : NF w W v b s cs) (hB : Below W.heap.size W W') : NF w W' v b s cs :=
  ⟨h.rd.keeps hB.block, (hB.block _ (lt_of_at h.x)).trans h.x, (hB.block _ (lt_of_at h.rz)).trans h.rz, h.below.trans (hB.mono h.below.size), h.bs.keeps hB.block⟩
theorem NF.read (h : NF w W v b s cs) (ho : ∀ x, w.heap.size ≤ x → Off v x) {a' : Nat} {e' : Int} (hm : RM W W' (w.heap.size + 1) 137 b a' e' w.heap.size) : NF w W' v b (a', e') cs :=
  ⟨hm.at_, (hm.grown.block _ (lt_of_at h.x) (by simp)).trans h.x, (hm.grown.block _ (lt_of_at h.rz) (by simp)).trans h.rz, h.below.grown hm.grown h.below.size (fun k e => by cases e; exact Nat.le_succ _), h.bs.grown hm.grown (ho _ (Nat.le_succ _))⟩
theorem NF.put (h : NF w W v b s cs) (ho : ∀ x, w.heap.size ≤ x → Off v x) (i : Nat) (y : Value) : NF w (W.setCell ⟨w.heap.size + 1 + 1, i, none⟩ y) v b s (cs.setIfInBounds i y) := by
  have hg := Lib.grownBy_setCell W (w.heap.size + 1 + 1) i y
  refine ⟨h.rd.kept hg (by omega) (by omega), ?_, (hg.block _ (lt_of_at h.rz) (by simp; omega)).trans h.rz, h.below.grown hg h.below.size (fun k e => by cases e; omega), h.bs.grown hg (ho _ (by omega))⟩
  have hx := h.x
  simp only [World.setCell, Array.getElem?_modify, hx, if_true, Option.map_some]
  rfl
theorem NF.at (h : NF w W v b s cs) (i : Nat) : W.cell? ⟨w.heap.size + 1 + 1, i, none⟩ = cs[i]? := cell_of_row _ _ _ _ _ _ h.x
theorem NF.thaw (h : NF w W v b s cs) (i : Nat) : W.frozen? ⟨w.heap.size + 1 + 1, i, none⟩ = false := by
  have hx := h.x
  simp [World.frozen?, hx]
theorem NF.own (h : NF w W v b s cs) (ho : ∀ x, w.heap.size ≤ x → Off v x) {row : Option Nat} (hg : W.grownBy W' row) (hr : ∀ x, row = some x → w.heap.size + 1 + 1 < x) : NF w W' v b s cs := by
  have hn : ∀ x, x ≤ w.heap.size + 1 + 1 → some x ≠ row := fun x hx e => by have := hr x e.symm; omega
  refine ⟨?_, (hg.block _ (lt_of_at h.x) (hn _ (Nat.le_refl _))).trans h.x, (hg.block _ (lt_of_at h.rz) (hn _ (by omega))).trans h.rz, h.below.grown hg h.below.size (fun k e => by have := hr k e; omega), ?_⟩
  · cases row with
    | none => exact h.rd.keeps fun k hk => hg.block k hk (by simp)
    | some x => exact h.rd.kept hg (by have := hr x rfl; omega) (by have := hr x rfl; omega)
  · cases row with
    | none => exact h.bs.keeps fun k hk => hg.block k hk (by simp)
    | some x => exact h.bs.grown hg (ho x (by have := hr x rfl; omega))
theorem NF.end_ (h : NF w W v b s cs) (ds : Array Value) : Below w.heap.size w (W.setRow w.heap.size ds) ∧ (W.setRow w.heap.size ds).heap[w.heap.size]? = some (.cells ds 31) := by
  have h1 : Below w.heap.size W (W.setRow w.heap.size ds) := ⟨rfl, rfl, rfl, by simp [World.setRow], fun k hk => setRow_other _ _ _ _ (by omega)⟩
  exact ⟨h.below.trans h1, setRow_heap _ _ _ _ _ _ h.rz⟩
end
theorem NF.start {w : World} {v : Value} {b : List UInt8} (hb : RdB w v b) : NF w (((w.alloc (.cells zN 31)).alloc (.cells #[v, .int .i64 0] 137)).alloc (.cells zN 31)) v b (0, 0) zN := by
  have hB : Below w.heap.size w (((w.alloc (.cells zN 31)).alloc (.cells #[v, .int .i64 0] 137)).alloc (.cells zN 31)) := (((Below.refl _ _).alloc (Nat.le_refl _) _).alloc (by simp) _).alloc (by simp; omega) _
  have h137 : ((w.alloc (.cells zN 31)).alloc (.cells #[v, .int .i64 0] 137)).heap[w.heap.size + 1]? = some (.cells #[v, .int .i64 0] 137) := by
    have := heap_alloc_new (w.alloc (.cells zN 31)) (.cells #[v, .int .i64 0] 137)
    rwa [heap_alloc_size] at this
  have h31 : (((w.alloc (.cells zN 31)).alloc (.cells #[v, .int .i64 0] 137)).alloc (.cells zN 31)).heap[w.heap.size + 1 + 1]? = some (.cells zN 31) := by
    have := heap_alloc_new ((w.alloc (.cells zN 31)).alloc (.cells #[v, .int .i64 0] 137)) (.cells zN 31)
    rwa [heap_alloc_size, heap_alloc_size] at this
  refine ⟨⟨v, ?_, ?_, fun x hx => hb.off hx⟩, h31, ?_, hB, hb.keeps hB.block⟩
  · show _ = _
    rw [Below.heap_alloc _ _ _ (by simp)]
    exact h137
  · show RdB _ v (b.drop 0)
    rw [List.drop_zero]
    exact hb.keeps hB.block
  · rw [Below.heap_alloc _ _ _ (by simp; omega), Below.heap_alloc _ _ _ (by simp)]
    exact heap_alloc_new w _
/-- A value that reads as these bytes. -/
def RdP (b : List UInt8) (v : Value) (W : World) : Prop := ∃ p n c, v = .slice p n c ∧ RdB W (.slice p n c) b
theorem RdP.keeps {b : List UInt8} {v : Value} {W W' : World} (h : RdP b v W) (hk : Keeps W W') : RdP b v W' := by
  obtain ⟨p, n, c, e, h⟩ := h; exact ⟨p, n, c, e, h.keeps hk⟩
/-- Where what is read lies. -/
def FF (w : World) : Foot := fun x => w.heap.size + 1 + 1 < x
theorem FF.moved {w W W' : World} {lv : Value} {es : List Ent} (h : EsG W (FF w) 53 lv es) (hg : W.grownBy W' (some (w.heap.size + 1))) : EsG W' (FF w) 53 lv es := by
  rcases h with ⟨rfl, rfl⟩ | ⟨r, cap, cur, rfl, hr, hh, h1, h2, h3, h4⟩
  · exact .inl ⟨rfl, rfl⟩
  · have hr' : w.heap.size + 1 + 1 < r := hr
    refine .inr ⟨r, cap, cur, rfl, hr, (hg.block r (lt_of_at hh) (by simp; omega)).trans hh, h1, h2, h3, ?_⟩
    have : ∀ {xs : List Value} {es : List Ent}, EsC W (fun b => FF w b ∧ b ≠ r) xs es → EsC W' (fun b => FF w b ∧ b ≠ r) xs es := by
      intro xs es h
      induction h with
      | nil => exact .nil
      | cons ht hd h ih =>
        have hne : ∀ k, FF w k ∧ k ≠ r → some k ≠ some (w.heap.size + 1) := fun k hk e => by
          have hk' : w.heap.size + 1 + 1 < k := hk.1
          cases e; omega
        exact .cons ht ⟨hd.rd.same fun k e n => hg.block k (hd.lt k e n) (hne k (hd.foot k e n)), hd.foot, fun k e n => Nat.lt_of_lt_of_le (hd.lt k e n) hg.size, thaw_frame hd.thaw fun k e n => hg.block k (hd.lt k e n) (hne k (hd.foot k e n))⟩ ih
    exact this h4
theorem FF.put {w W : World} {lv : Value} {es : List Ent} (h : EsG W (FF w) 53 lv es) (i : Nat) (y : Value) : EsG (W.setCell ⟨w.heap.size + 1 + 1, i, none⟩ y) (FF w) 53 lv es :=
  h.frame fun b hb => Below.heap_setCell _ _ _ _ (by have hb' : w.heap.size + 1 + 1 < b := hb; simp; omega)
theorem FF.data {w W W' : World} {v : Value} {t : List UInt8} (h : OB W' W.heap.size 5 v t) (h0 : w.heap.size + 1 + 1 < W.heap.size) : DatA W' (FF w) v t :=
  (DatA.of_ob h).mono fun b _ hb => by
    have hb' : W.heap.size ≤ b := hb
    show w.heap.size + 1 + 1 < b
    omega
theorem FF.data2 {w W W' : World} {v lv : Value} {t : List UInt8} {es : List Ent} (h : OB W' W.heap.size 5 v t) (h0 : w.heap.size + 1 + 1 < W.heap.size) (hG : EsG W (FF w) 53 lv es) : DatA W' (fun x => FF w x ∧ lv.ownBlock ≠ some x) v t :=
  (DatA.of_ob h).mono fun b _ hb => by
    have hb' : W.heap.size ≤ b := hb
    exact ⟨by show w.heap.size + 1 + 1 < b; omega, fun e => by have := (hG.foot b e).2; omega⟩
theorem FF.sameCell (w W : World) (i : Nat) (y : Value) : SameOn (FF w) W (W.setCell ⟨w.heap.size + 1 + 1, i, none⟩ y) := fun b hb => Below.heap_setCell _ _ _ _ (by have hb' : w.heap.size + 1 + 1 < b := hb; simp; omega)
theorem FF.nil (w W : World) : EsG W (FF w) 53 (.slice none 0 0) [] := .inl ⟨rfl, rfl⟩
theorem FF.of_list {w W : World} {k t r i a c : Nat} {y : Bool} {L : List Ent} {lv : Value} (h : EsG W (FF w) 53 lv L) (hk : k < 256) (ht : t < 2 ^ 64) (hr : r < 2 ^ 64) (hi : i < 2 ^ 64) (ha : a < 2 ^ 64) (hc : c < 2 ^ 64) :
    NtA W (FF w) lv (.slice none 0 0) ⟨k, t, r, i, a, c, y, L, []⟩ :=
  ⟨h.rd, ⟨(OB.nil W 0 5).rd, (fun g e _ => by cases e), (fun g e _ => by cases e), (fun b off c e => by cases e)⟩, hk, ht, hr, hi, ha, hc⟩
theorem FF.of_data {w W : World} {k t r i a c : Nat} {y : Bool} {D : List UInt8} {dv : Value} (h : DatA W (FF w) dv D) (hk : k < 256) (ht : t < 2 ^ 64) (hr : r < 2 ^ 64) (hi : i < 2 ^ 64) (ha : a < 2 ^ 64) (hc : c < 2 ^ 64) :
    NtA W (FF w) (.slice none 0 0) dv ⟨k, t, r, i, a, c, y, [], D⟩ :=
  ⟨EsR.nil _ _, h, hk, ht, hr, hi, ha, hc⟩
end Go.Proofs.Yteellfgiejnigaa
