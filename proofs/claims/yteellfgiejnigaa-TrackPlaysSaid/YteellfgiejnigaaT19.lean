/- The law of TrackMeets. -/
import Derived.Test.YteellfgiejnigaaT18
namespace Go.Proofs.Yteellfgiejnigaa
open Go.ChangeShapes Go.WideShapes Go.ChangeAt Go.RowKit
set_option linter.unusedVariables false

theorem ops2 {w : World} {v1 v2 : Value} {es ss : List Ent} {S1 S2 : Foot} (h1 : EsR w S1 v1 es) (h2 : EsR w S2 v2 ss) : OpsL (w.alloc (Obj.cells #[.int .i64 0, .int .i64 0, .int .u64 0, .int .u64 0, v1, .int .i64 0, .int .i64 0, .int .u64 0, .int .u64 0, v2] 39)) (.slice (some ⟨w.heap.size, 0, none⟩) 2 2) [es, ss] := by
  refine ⟨_, 2, rfl, fun _ => ⟨w.heap.size, 0, rfl, fun i hi => ?_⟩⟩
  match i, hi with
  | 0, _ => exact ⟨v1, S1, by rw [cell_of_row _ _ _ _ _ _ (heap_alloc_new w _)]; rfl, h1.keeps ((Keeps.refl w).alloc _)⟩
  | 1, _ => exact ⟨v2, S2, by rw [cell_of_row _ _ _ _ _ _ (heap_alloc_new w _)]; rfl, h2.keeps ((Keeps.refl w).alloc _)⟩
theorem tame2_w (v1 v2 : Value) (es ss : List Ent) (w : World) (S1 S2 : Foot) (h1 : EsR w S1 v1 es) (h2 : EsR w S2 v2 ss) (k1 : ∀ e ∈ es, e.2.length ≤ 140737488351232) (k2 : ∀ e ∈ ss, e.2.length ≤ 140737488351232) :
    Calls Try.prog 21 #[.slice (some ⟨w.heap.size, 0, none⟩) 2 2] (w.alloc (Obj.cells #[.int .i64 0, .int .i64 0, .int .u64 0, .int .u64 0, v1, .int .i64 0, .int .i64 0, .int .u64 0, .int .u64 0, v2] 39)) fun r w' => r = .returned (.bool (tameR [es, ss])) ∧ Below (w.alloc (Obj.cells #[.int .i64 0, .int .i64 0, .int .u64 0, .int .u64 0, v1, .int .i64 0, .int .i64 0, .int .u64 0, .int .u64 0, v2] 39)).heap.size (w.alloc (Obj.cells #[.int .i64 0, .int .i64 0, .int .u64 0, .int .u64 0, v1, .int .i64 0, .int .i64 0, .int .u64 0, .int .u64 0, v2] 39)) w' :=
  tame_w _ _ _ (ops2 h1 h2) fun x hx e he => by
    simp only [List.mem_cons, List.not_mem_nil, or_false] at hx
    rcases hx with rfl | rfl
    · exact Nat.le_trans (k1 e he) (by decide)
    · exact Nat.le_trans (k2 e he) (by decide)
theorem tame2_b (w : World) (v1 v2 : Value) : Below w.heap.size w (w.alloc (Obj.cells #[.int .i64 0, .int .i64 0, .int .u64 0, .int .u64 0, v1, .int .i64 0, .int .i64 0, .int .u64 0, .int .u64 0, v2] 39)) := (Below.refl w.heap.size w).alloc (Nat.le_refl _) _
set_option maxRecDepth 100000 in
set_option maxHeartbeats 1600000 in
theorem meets_many1_w (B T prev at' : Nat) (v1 v2 : Value) (es ss : List Ent) (w : World) (S1 S2 : Foot) (h1 : EsR w S1 v1 es) (h2 : EsR w S2 v2 ss) (hl : 30 < es.length) :
    Calls Try.prog 5 #[.int .u64 (B : Int), .int .u64 (T : Int), v1, v2, .int .u64 (prev : Int), .int .u64 (at' : Int)] w fun r w' => r = .returned (.bool true) ∧ Below w.heap.size w w' := by
  obtain ⟨p1, c1, rfl⟩ : ∃ p c, v1 = .slice p es.length c := by obtain ⟨p, c, xs, e, _⟩ := h1; exact ⟨p, c, e⟩
  obtain ⟨p2, c2, rfl⟩ : ∃ p c, v2 = .slice p ss.length c := by obtain ⟨p, c, xs, e, _⟩ := h2; exact ⟨p, c, e⟩
  clear h1 h2
  generalize es.length = n1 at *
  generalize ss.length = n2 at *
  have d1 : decide (30 < (n1 : Int)) = true := by simp; omega
  go_enter Try.func5, Try.ntmps5
  go_wp2_with (first
    | (go_at_call 15; refine (known24_w _).mono ?_; rintro r w13 ⟨rfl, hB⟩; have HB13 := Lib.hid ((Below.refl w.heap.size w).trans hB); clear hB))
  go_ret
  exact ⟨rfl, HB13.out⟩
set_option maxRecDepth 100000 in
set_option maxHeartbeats 1600000 in
theorem meets_many2_w (B T prev at' : Nat) (v1 v2 : Value) (es ss : List Ent) (w : World) (S1 S2 : Foot) (h1 : EsR w S1 v1 es) (h2 : EsR w S2 v2 ss) (hl1 : es.length ≤ 30) (hl : 30 < ss.length) :
    Calls Try.prog 5 #[.int .u64 (B : Int), .int .u64 (T : Int), v1, v2, .int .u64 (prev : Int), .int .u64 (at' : Int)] w fun r w' => r = .returned (.bool true) ∧ Below w.heap.size w w' := by
  obtain ⟨p1, c1, rfl⟩ : ∃ p c, v1 = .slice p es.length c := by obtain ⟨p, c, xs, e, _⟩ := h1; exact ⟨p, c, e⟩
  obtain ⟨p2, c2, rfl⟩ : ∃ p c, v2 = .slice p ss.length c := by obtain ⟨p, c, xs, e, _⟩ := h2; exact ⟨p, c, e⟩
  clear h1 h2
  generalize es.length = n1 at *
  generalize ss.length = n2 at *
  have d1 : decide (30 < (n1 : Int)) = false := by simp; omega
  have d2 : decide (30 < (n2 : Int)) = true := by simp; omega
  go_enter Try.func5, Try.ntmps5
  go_wp2_with (first
    | (go_at_call 15; refine (known24_w _).mono ?_; rintro r w13 ⟨rfl, hB⟩; have HB13 := Lib.hid ((Below.refl w.heap.size w).trans hB); clear hB))
  go_ret
  exact ⟨rfl, HB13.out⟩
set_option maxRecDepth 100000 in
set_option maxHeartbeats 1600000 in
theorem meets_wild_w (B T prev at' : Nat) (v1 v2 : Value) (es ss : List Ent) (w : World) (S1 S2 : Foot) (h1 : EsR w S1 v1 es) (h2 : EsR w S2 v2 ss) (hl1 : es.length ≤ 30) (hl2 : ss.length ≤ 30) (k1 : ∀ e ∈ es, e.2.length ≤ 140737488351232) (k2 : ∀ e ∈ ss, e.2.length ≤ 140737488351232) (ht : tameR [es, ss] = false) :
    Calls Try.prog 5 #[.int .u64 (B : Int), .int .u64 (T : Int), v1, v2, .int .u64 (prev : Int), .int .u64 (at' : Int)] w fun r w' => r = .returned (.bool true) ∧ Below w.heap.size w w' := by
  obtain ⟨p1, c1, rfl⟩ : ∃ p c, v1 = .slice p es.length c := by obtain ⟨p, c, xs, e, _⟩ := h1; exact ⟨p, c, e⟩
  obtain ⟨p2, c2, rfl⟩ : ∃ p c, v2 = .slice p ss.length c := by obtain ⟨p, c, xs, e, _⟩ := h2; exact ⟨p, c, e⟩
  have d1 : decide (30 < (es.length : Int)) = false := by simp; omega
  have d2 : decide (30 < (ss.length : Int)) = false := by simp; omega
  have HTm := Lib.hid (tame2_w _ _ es ss w S1 S2 h1 h2 k1 k2)
  have HB1 := Lib.hid (tame2_b w (.slice p1 es.length c1) (.slice p2 ss.length c2))
  rw [ht] at HTm
  clear h1 h2 k1 k2
  generalize es.length = n1 at *
  generalize ss.length = n2 at *
  go_enter Try.func5, Try.ntmps5
  go_wp2_with (first
    | (go_at_call 21; refine (HTm.out).mono ?_; rintro r w2 ⟨rfl, hB⟩; have HB2 := Lib.hid (HB1.out.trans (hB.mono HB1.out.size)); clear hB HTm)
    | (go_at_call 15; refine (known24_w _).mono ?_; rintro r w13 ⟨rfl, hB⟩; have HB13 := Lib.hid (HB2.out.trans (hB.mono HB2.out.size)); clear hB))
  go_ret
  exact ⟨rfl, HB13.out⟩
set_option maxRecDepth 100000 in
set_option maxHeartbeats 1600000 in
theorem meets_high1_w (B T prev at' : Nat) (v1 v2 : Value) (es ss : List Ent) (w : World) (S1 S2 : Foot) (h1 : EsR w S1 v1 es) (h2 : EsR w S2 v2 ss) (hl1 : es.length ≤ 30) (hl2 : ss.length ≤ 30) (k1 : ∀ e ∈ es, e.2.length ≤ 140737488351232) (k2 : ∀ e ∈ ss, e.2.length ≤ 140737488351232) (ht : tameR [es, ss] = true) (hb : 9223372036854775808 < B) :
    Calls Try.prog 5 #[.int .u64 (B : Int), .int .u64 (T : Int), v1, v2, .int .u64 (prev : Int), .int .u64 (at' : Int)] w fun r w' => r = .returned (.bool true) ∧ Below w.heap.size w w' := by
  obtain ⟨p1, c1, rfl⟩ : ∃ p c, v1 = .slice p es.length c := by obtain ⟨p, c, xs, e, _⟩ := h1; exact ⟨p, c, e⟩
  obtain ⟨p2, c2, rfl⟩ : ∃ p c, v2 = .slice p ss.length c := by obtain ⟨p, c, xs, e, _⟩ := h2; exact ⟨p, c, e⟩
  have d1 : decide (30 < (es.length : Int)) = false := by simp; omega
  have d2 : decide (30 < (ss.length : Int)) = false := by simp; omega
  have HTm := Lib.hid (tame2_w _ _ es ss w S1 S2 h1 h2 k1 k2)
  have HB1 := Lib.hid (tame2_b w (.slice p1 es.length c1) (.slice p2 ss.length c2))
  rw [ht] at HTm
  have d3 : decide (9223372036854775808 < (B : Int)) = true := by simp; omega
  clear h1 h2 k1 k2
  generalize es.length = n1 at *
  generalize ss.length = n2 at *
  go_enter Try.func5, Try.ntmps5
  go_wp2_with (first
    | (go_at_call 21; refine (HTm.out).mono ?_; rintro r w2 ⟨rfl, hB⟩; have HB2 := Lib.hid (HB1.out.trans (hB.mono HB1.out.size)); clear hB HTm)
    | (go_at_call 15; refine (known24_w _).mono ?_; rintro r w13 ⟨rfl, hB⟩; have HB13 := Lib.hid (HB2.out.trans (hB.mono HB2.out.size)); clear hB))
  go_ret
  exact ⟨rfl, HB13.out⟩
set_option maxRecDepth 100000 in
set_option maxHeartbeats 1600000 in
theorem meets_high2_w (B T prev at' : Nat) (v1 v2 : Value) (es ss : List Ent) (w : World) (S1 S2 : Foot) (h1 : EsR w S1 v1 es) (h2 : EsR w S2 v2 ss) (hl1 : es.length ≤ 30) (hl2 : ss.length ≤ 30) (k1 : ∀ e ∈ es, e.2.length ≤ 140737488351232) (k2 : ∀ e ∈ ss, e.2.length ≤ 140737488351232) (ht : tameR [es, ss] = true) (hb : B ≤ 9223372036854775808) (hp : 9223372036854775808 < prev) :
    Calls Try.prog 5 #[.int .u64 (B : Int), .int .u64 (T : Int), v1, v2, .int .u64 (prev : Int), .int .u64 (at' : Int)] w fun r w' => r = .returned (.bool true) ∧ Below w.heap.size w w' := by
  obtain ⟨p1, c1, rfl⟩ : ∃ p c, v1 = .slice p es.length c := by obtain ⟨p, c, xs, e, _⟩ := h1; exact ⟨p, c, e⟩
  obtain ⟨p2, c2, rfl⟩ : ∃ p c, v2 = .slice p ss.length c := by obtain ⟨p, c, xs, e, _⟩ := h2; exact ⟨p, c, e⟩
  have d1 : decide (30 < (es.length : Int)) = false := by simp; omega
  have d2 : decide (30 < (ss.length : Int)) = false := by simp; omega
  have HTm := Lib.hid (tame2_w _ _ es ss w S1 S2 h1 h2 k1 k2)
  have HB1 := Lib.hid (tame2_b w (.slice p1 es.length c1) (.slice p2 ss.length c2))
  rw [ht] at HTm
  have d3 : decide (9223372036854775808 < (B : Int)) = false := by simp; omega
  have d4 : decide (9223372036854775808 < (prev : Int)) = true := by simp; omega
  clear h1 h2 k1 k2
  generalize es.length = n1 at *
  generalize ss.length = n2 at *
  go_enter Try.func5, Try.ntmps5
  go_wp2_with (first
    | (go_at_call 21; refine (HTm.out).mono ?_; rintro r w2 ⟨rfl, hB⟩; have HB2 := Lib.hid (HB1.out.trans (hB.mono HB1.out.size)); clear hB HTm)
    | (go_at_call 15; refine (known24_w _).mono ?_; rintro r w13 ⟨rfl, hB⟩; have HB13 := Lib.hid (HB2.out.trans (hB.mono HB2.out.size)); clear hB))
  go_ret
  exact ⟨rfl, HB13.out⟩
end Go.Proofs.Yteellfgiejnigaa
