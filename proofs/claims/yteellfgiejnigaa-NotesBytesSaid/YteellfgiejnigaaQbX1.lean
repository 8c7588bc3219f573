/- The document's bare: a note with the fields of its kind alone. -/
import Derived.Test.YteellfgiejnigaaQbU5
namespace Go.Proofs.Yteellfgiejnigaa
open Go.ChangeShapes Go.WideShapes Go.ChangeAt Go.RowKit
set_option linter.unusedVariables false
def bareN (x : Nt) : Nt := ⟨x.kind, x.term, if hasR x.kind then x.round else 0, if hasI x.kind then x.index else 0, if hasA x.kind then x.at_ else 0, if hasC x.kind then x.commit else 0, if hasY x.kind then x.yes else false, if hasL x.kind then x.list else [], if hasD x.kind then x.data else []⟩
def bareC (x : Nt) (lv dv : Value) : Array Value := #[.int .u8 (x.kind : Int), .int .u64 (x.term : Int), .int .u64 ((if hasR x.kind then x.round else 0 : Nat) : Int), .int .u64 ((if hasI x.kind then x.index else 0 : Nat) : Int), .int .u64 ((if hasA x.kind then x.at_ else 0 : Nat) : Int),
  .int .u64 ((if hasC x.kind then x.commit else 0 : Nat) : Int), .bool (if hasY x.kind then x.yes else false), if hasL x.kind then lv else .slice none 0 0, if hasD x.kind then dv else .slice none 0 0]

theorem three_at (w : World) (A B C : Array Value) : (((w.alloc (.cells A 31)).alloc (.cells B 31)).alloc (.cells C 31)).heap[w.heap.size + 1]? = some (.cells B 31) := by
  rw [Below.heap_alloc _ _ _ (by simp)]
  have := heap_alloc_new (w.alloc (.cells A 31)) (.cells B 31)
  rwa [heap_alloc_size] at this
theorem three_below (w : World) (A B C : Array Value) : Below w.heap.size w (((w.alloc (.cells A 31)).alloc (.cells B 31)).alloc (.cells C 31)) :=
  (((Below.refl w.heap.size w).alloc (Nat.le_refl _) _).alloc (by simp) _).alloc (by simp; omega) _
set_option maxRecDepth 100000 in
set_option maxHeartbeats 3200000 in
theorem bare_1_w (t r i a c : Nat) (y : Bool) (pl pd : Option Addr) (nl cl nd cd : Nat) (w : World) :
    Calls Try.prog 94 #[.agg #[.int .u8 1, .int .u64 (t : Int), .int .u64 (r : Int), .int .u64 (i : Int), .int .u64 (a : Int), .int .u64 (c : Int), .bool y, .slice pl nl cl, .slice pd nd cd]] w fun e w' => e = .returned (.agg #[.int .u8 1, .int .u64 (t : Int), .int .u64 (r : Int), .int .u64 (i : Int), .int .u64 (a : Int), .int .u64 0, .bool false, .slice none 0 0, .slice none 0 0]) ∧ Below w.heap.size w w' := by
  go_enter Try.func94, Try.ntmps94
  go_wp2
  refine bodyPost_ret (v := .agg #[.int .u8 1, .int .u64 (t : Int), .int .u64 (r : Int), .int .u64 (i : Int), .int .u64 (a : Int), .int .u64 0, .bool false, .slice none 0 0, .slice none 0 0]) (results_cell_row rfl _ _ (w.heap.size + 1) 31 _ _ _ rfl (three_at w _ _ _) Try.underlying31 rfl (show _ = some 9 by kernel_rfl)) rfl ?_
  exact ⟨rfl, three_below w _ _ _⟩
set_option maxRecDepth 100000 in
set_option maxHeartbeats 3200000 in
theorem bare_2_w (t r i a c : Nat) (y : Bool) (pl pd : Option Addr) (nl cl nd cd : Nat) (w : World) :
    Calls Try.prog 94 #[.agg #[.int .u8 2, .int .u64 (t : Int), .int .u64 (r : Int), .int .u64 (i : Int), .int .u64 (a : Int), .int .u64 (c : Int), .bool y, .slice pl nl cl, .slice pd nd cd]] w fun e w' => e = .returned (.agg #[.int .u8 2, .int .u64 (t : Int), .int .u64 (r : Int), .int .u64 0, .int .u64 0, .int .u64 0, .bool y, .slice none 0 0, .slice none 0 0]) ∧ Below w.heap.size w w' := by
  go_enter Try.func94, Try.ntmps94
  go_wp2
  refine bodyPost_ret (v := .agg #[.int .u8 2, .int .u64 (t : Int), .int .u64 (r : Int), .int .u64 0, .int .u64 0, .int .u64 0, .bool y, .slice none 0 0, .slice none 0 0]) (results_cell_row rfl _ _ (w.heap.size + 1) 31 _ _ _ rfl (three_at w _ _ _) Try.underlying31 rfl (show _ = some 9 by kernel_rfl)) rfl ?_
  exact ⟨rfl, three_below w _ _ _⟩
set_option maxRecDepth 100000 in
set_option maxHeartbeats 3200000 in
theorem bare_3_w (t r i a c : Nat) (y : Bool) (pl pd : Option Addr) (nl cl nd cd : Nat) (w : World) :
    Calls Try.prog 94 #[.agg #[.int .u8 3, .int .u64 (t : Int), .int .u64 (r : Int), .int .u64 (i : Int), .int .u64 (a : Int), .int .u64 (c : Int), .bool y, .slice pl nl cl, .slice pd nd cd]] w fun e w' => e = .returned (.agg #[.int .u8 3, .int .u64 (t : Int), .int .u64 0, .int .u64 (i : Int), .int .u64 (a : Int), .int .u64 0, .bool false, .slice none 0 0, .slice none 0 0]) ∧ Below w.heap.size w w' := by
  go_enter Try.func94, Try.ntmps94
  go_wp2
  refine bodyPost_ret (v := .agg #[.int .u8 3, .int .u64 (t : Int), .int .u64 0, .int .u64 (i : Int), .int .u64 (a : Int), .int .u64 0, .bool false, .slice none 0 0, .slice none 0 0]) (results_cell_row rfl _ _ (w.heap.size + 1) 31 _ _ _ rfl (three_at w _ _ _) Try.underlying31 rfl (show _ = some 9 by kernel_rfl)) rfl ?_
  exact ⟨rfl, three_below w _ _ _⟩
set_option maxRecDepth 100000 in
set_option maxHeartbeats 3200000 in
theorem bare_4_w (t r i a c : Nat) (y : Bool) (pl pd : Option Addr) (nl cl nd cd : Nat) (w : World) :
    Calls Try.prog 94 #[.agg #[.int .u8 4, .int .u64 (t : Int), .int .u64 (r : Int), .int .u64 (i : Int), .int .u64 (a : Int), .int .u64 (c : Int), .bool y, .slice pl nl cl, .slice pd nd cd]] w fun e w' => e = .returned (.agg #[.int .u8 4, .int .u64 (t : Int), .int .u64 0, .int .u64 0, .int .u64 0, .int .u64 0, .bool y, .slice none 0 0, .slice none 0 0]) ∧ Below w.heap.size w w' := by
  go_enter Try.func94, Try.ntmps94
  go_wp2
  refine bodyPost_ret (v := .agg #[.int .u8 4, .int .u64 (t : Int), .int .u64 0, .int .u64 0, .int .u64 0, .int .u64 0, .bool y, .slice none 0 0, .slice none 0 0]) (results_cell_row rfl _ _ (w.heap.size + 1) 31 _ _ _ rfl (three_at w _ _ _) Try.underlying31 rfl (show _ = some 9 by kernel_rfl)) rfl ?_
  exact ⟨rfl, three_below w _ _ _⟩
set_option maxRecDepth 100000 in
set_option maxHeartbeats 3200000 in
theorem bare_5_w (t r i a c : Nat) (y : Bool) (pl pd : Option Addr) (nl cl nd cd : Nat) (w : World) :
    Calls Try.prog 94 #[.agg #[.int .u8 5, .int .u64 (t : Int), .int .u64 (r : Int), .int .u64 (i : Int), .int .u64 (a : Int), .int .u64 (c : Int), .bool y, .slice pl nl cl, .slice pd nd cd]] w fun e w' => e = .returned (.agg #[.int .u8 5, .int .u64 (t : Int), .int .u64 0, .int .u64 (i : Int), .int .u64 (a : Int), .int .u64 (c : Int), .bool false, .slice pl nl cl, .slice none 0 0]) ∧ Below w.heap.size w w' := by
  go_enter Try.func94, Try.ntmps94
  go_wp2
  refine bodyPost_ret (v := .agg #[.int .u8 5, .int .u64 (t : Int), .int .u64 0, .int .u64 (i : Int), .int .u64 (a : Int), .int .u64 (c : Int), .bool false, .slice pl nl cl, .slice none 0 0]) (results_cell_row rfl _ _ (w.heap.size + 1) 31 _ _ _ rfl (three_at w _ _ _) Try.underlying31 rfl (show _ = some 9 by kernel_rfl)) rfl ?_
  exact ⟨rfl, three_below w _ _ _⟩
set_option maxRecDepth 100000 in
set_option maxHeartbeats 3200000 in
theorem bare_6_w (t r i a c : Nat) (y : Bool) (pl pd : Option Addr) (nl cl nd cd : Nat) (w : World) :
    Calls Try.prog 94 #[.agg #[.int .u8 6, .int .u64 (t : Int), .int .u64 (r : Int), .int .u64 (i : Int), .int .u64 (a : Int), .int .u64 (c : Int), .bool y, .slice pl nl cl, .slice pd nd cd]] w fun e w' => e = .returned (.agg #[.int .u8 6, .int .u64 (t : Int), .int .u64 0, .int .u64 (i : Int), .int .u64 0, .int .u64 0, .bool y, .slice none 0 0, .slice none 0 0]) ∧ Below w.heap.size w w' := by
  go_enter Try.func94, Try.ntmps94
  go_wp2
  refine bodyPost_ret (v := .agg #[.int .u8 6, .int .u64 (t : Int), .int .u64 0, .int .u64 (i : Int), .int .u64 0, .int .u64 0, .bool y, .slice none 0 0, .slice none 0 0]) (results_cell_row rfl _ _ (w.heap.size + 1) 31 _ _ _ rfl (three_at w _ _ _) Try.underlying31 rfl (show _ = some 9 by kernel_rfl)) rfl ?_
  exact ⟨rfl, three_below w _ _ _⟩
set_option maxRecDepth 100000 in
set_option maxHeartbeats 3200000 in
theorem bare_7_w (t r i a c : Nat) (y : Bool) (pl pd : Option Addr) (nl cl nd cd : Nat) (w : World) :
    Calls Try.prog 94 #[.agg #[.int .u8 7, .int .u64 (t : Int), .int .u64 (r : Int), .int .u64 (i : Int), .int .u64 (a : Int), .int .u64 (c : Int), .bool y, .slice pl nl cl, .slice pd nd cd]] w fun e w' => e = .returned (.agg #[.int .u8 7, .int .u64 (t : Int), .int .u64 0, .int .u64 (i : Int), .int .u64 (a : Int), .int .u64 0, .bool false, .slice none 0 0, .slice pd nd cd]) ∧ Below w.heap.size w w' := by
  go_enter Try.func94, Try.ntmps94
  go_wp2
  refine bodyPost_ret (v := .agg #[.int .u8 7, .int .u64 (t : Int), .int .u64 0, .int .u64 (i : Int), .int .u64 (a : Int), .int .u64 0, .bool false, .slice none 0 0, .slice pd nd cd]) (results_cell_row rfl _ _ (w.heap.size + 1) 31 _ _ _ rfl (three_at w _ _ _) Try.underlying31 rfl (show _ = some 9 by kernel_rfl)) rfl ?_
  exact ⟨rfl, three_below w _ _ _⟩
theorem bare_w (x : Nt) (lv dv : Value) (S : Foot) (w : World) (h : NtA w S lv dv x) (h1 : 1 ≤ x.kind) (h7 : x.kind ≤ 7) : Calls Try.prog 94 #[ntv x lv dv] w fun e w' => e = .returned (.agg (bareC x lv dv)) ∧ Below w.heap.size w w' := by
  obtain ⟨⟨pl, cl, rfl⟩, ⟨pd, cd, rfl⟩⟩ := h.forms
  clear h
  obtain ⟨k, t, r, i, a, c, y, L, D⟩ := x
  dsimp only at *
  have hk : k = 1 ∨ k = 2 ∨ k = 3 ∨ k = 4 ∨ k = 5 ∨ k = 6 ∨ k = 7 := by omega
  rcases hk with rfl | rfl | rfl | rfl | rfl | rfl | rfl
  · exact bare_1_w t r i a c y pl pd L.length cl D.length cd w
  · exact bare_2_w t r i a c y pl pd L.length cl D.length cd w
  · exact bare_3_w t r i a c y pl pd L.length cl D.length cd w
  · exact bare_4_w t r i a c y pl pd L.length cl D.length cd w
  · exact bare_5_w t r i a c y pl pd L.length cl D.length cd w
  · exact bare_6_w t r i a c y pl pd L.length cl D.length cd w
  · exact bare_7_w t r i a c y pl pd L.length cl D.length cd w
theorem bare_nt (x : Nt) (lv dv : Value) : Value.agg (bareC x lv dv) = ntv (bareN x) (if hasL x.kind then lv else .slice none 0 0) (if hasD x.kind then dv else .slice none 0 0) := rfl
theorem bare_at {x : Nt} {lv dv : Value} {S : Foot} {w : World} (h : NtA w S lv dv x) : NtA w S (if hasL x.kind then lv else .slice none 0 0) (if hasD x.kind then dv else .slice none 0 0) (bareN x) := by
  refine ⟨?_, ?_, h.kind, h.term, ?_, ?_, ?_, ?_⟩
  · unfold bareN; dsimp only; cases hasL x.kind with
    | true => exact h.l
    | false => exact EsR.nil _ _
  · unfold bareN; dsimp only; cases hasD x.kind with
    | true => exact h.d
    | false => exact ⟨(OB.nil w 0 5).rd, (fun g e _ => by cases e), (fun g e _ => by cases e), (fun b off c e => by cases e)⟩
  · have := h.round; unfold bareN; dsimp only; split <;> omega
  · have := h.index; unfold bareN; dsimp only; split <;> omega
  · have := h.at_; unfold bareN; dsimp only; split <;> omega
  · have := h.commit; unfold bareN; dsimp only; split <;> omega
/-- The document's way to say whether a note may be. -/
theorem mayN_ref (x : Nt) : mayN x = true ↔ 1 ≤ x.kind ∧ x.kind ≤ 7 ∧ sameN x (bareN x) = true ∧ x.index ≤ 4611686018427387904 ∧ x.commit ≤ 4611686018427387904 ∧ x.list.length ≤ 16 ∧ x.data.length ≤ 524288 ∧ anyLong x.list = false := by
  rw [sameN_iff]
  obtain ⟨k, t, r, i, a, c, y, L, D⟩ := x
  unfold mayN bareN
  simp only [decide_eq_true_eq, Nt.mk.injEq, true_and]
  constructor
  · rintro ⟨m1, m2, m3, m4, m5, m6, m7, m8, m9, m10, m11, m12, m13, m14⟩
    refine ⟨m1, m2, ⟨?_, ?_, ?_, ?_, ?_, ?_, ?_⟩, m7, m8, m12, m13, m14⟩
    · cases h : hasR k with
      | true => rw [if_pos rfl]
      | false => rw [if_neg (by decide)]; exact m3 h
    · cases h : hasI k with
      | true => rw [if_pos rfl]
      | false => rw [if_neg (by decide)]; exact m4 h
    · cases h : hasA k with
      | true => rw [if_pos rfl]
      | false => rw [if_neg (by decide)]; exact m5 h
    · cases h : hasC k with
      | true => rw [if_pos rfl]
      | false => rw [if_neg (by decide)]; exact m6 h
    · cases h : hasY k with
      | true => rw [if_pos rfl]
      | false => rw [if_neg (by decide)]; exact m9 h
    · cases h : hasL k with
      | true => rw [if_pos rfl]
      | false => rw [if_neg (by decide)]; exact List.eq_nil_of_length_eq_zero (m10 h)
    · cases h : hasD k with
      | true => rw [if_pos rfl]
      | false => rw [if_neg (by decide)]; exact List.eq_nil_of_length_eq_zero (m11 h)
  · rintro ⟨m1, m2, ⟨q1, q2, q3, q4, q5, q6, q7⟩, m7, m8, m12, m13, m14⟩
    refine ⟨m1, m2, fun h => ?_, fun h => ?_, fun h => ?_, fun h => ?_, m7, m8, fun h => ?_, fun h => ?_, fun h => ?_, m12, m13, m14⟩
    · rw [h] at q1; exact q1
    · rw [h] at q2; exact q2
    · rw [h] at q3; exact q3
    · rw [h] at q4; exact q4
    · rw [h] at q5; exact q5
    · rw [h] at q6; rw [q6]; rfl
    · rw [h] at q7; rw [q7]; rfl
end Go.Proofs.Yteellfgiejnigaa
