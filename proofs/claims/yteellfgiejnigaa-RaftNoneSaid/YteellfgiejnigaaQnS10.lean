/- What a step of a node does to its term and its base, and what it sends; plain. -/
import Derived.Test.YteellfgiejnigaaQnS9
namespace Go.Proofs.Yteellfgiejnigaa.RS
set_option linter.unusedVariables false
namespace Rf
def No7 (o : Ou) : Prop := ∀ p, p ∈ o.send → p.2.kind ≠ 7
theorem no7_none : No7 Ou.none := fun p h => by cases h
theorem No7.put {o : Ou} (h : No7 o) (r : Rf) (t : Nat) {x : Nt} (hx : x.kind ≠ 7) : No7 (r.put o t x) := by
  intro p hp
  rcases List.mem_append.1 hp with hp | hp
  · exact h p hp
  · have : p = (t, { x with term := r.term }) := by simpa using hp
    subst this
    exact hx
theorem No7.fold {f : Ou → Nat → Ou} (hf : ∀ o q, No7 o → No7 (f o q)) : ∀ (qs : List Nat) {o : Ou}, No7 o → No7 (qs.foldl f o) := by
  intro qs
  induction qs with
  | nil => intro o h; exact h
  | cons q qs ih => intro o h; exact ih (hf o q h)
theorem No7.ask {o : Ou} (h : No7 o) (r : Rf) {k : Nat} (hk : k ≠ 7) : No7 (r.ask o k) := No7.fold (fun o q h => h.put r q (show k ≠ 7 from hk)) _ h
theorem No7.update {o : Ou} (h : No7 o) (r : Rf) (q : Nat) : No7 (r.update o q) := by
  unfold Rf.update
  split
  · exact h
  · exact h.put r q (show (5 : Nat) ≠ 7 by decide)
theorem No7.updates {o : Ou} (h : No7 o) (r : Rf) : No7 (r.updates o) := No7.fold (fun o q h => h.update r q) _ h
theorem No7.lead {o : Ou} (h : No7 o) (r : Rf) : No7 (r.lead o).2 := No7.updates (o := r.lead0.addO o []) h _
theorem tick_all (r : Rf) (d : Nat) : (r.tick d).1.base = r.base ∧ r.term ≤ (r.tick d).1.term ∧ (r.tick d).1.term ≤ r.term + 1 ∧ No7 (r.tick d).2 := by
  unfold Rf.tick
  split
  · dsimp only
    split
    · exact ⟨rfl, Nat.le_refl _, Nat.le_succ _, no7_none.updates _⟩
    · exact ⟨rfl, Nat.le_refl _, Nat.le_succ _, no7_none⟩
  · dsimp only
    split
    · exact ⟨rfl, Nat.le_refl _, Nat.le_succ _, no7_none⟩
    · split
      · exact ⟨rfl, Nat.le_refl _, Nat.le_succ _, no7_none.ask _ (by decide)⟩
      · split
        · split
          · exact ⟨rfl, Nat.le_succ _, Nat.le_refl _, (no7_none.ask _ (by decide)).lead _⟩
          · exact ⟨rfl, Nat.le_succ _, Nat.le_refl _, no7_none.ask _ (by decide)⟩
        · exact ⟨rfl, Nat.le_refl _, Nat.le_succ _, no7_none⟩
theorem up_all (r : Rf) (t d : Nat) : (r.up t d).base = r.base ∧ r.term ≤ (r.up t d).term ∧ t ≤ (r.up t d).term ∧ (r.up t d).term ≤ max r.term t := by
  unfold Rf.up
  by_cases h : r.term < t
  · rw [if_pos h]
    dsimp only
    refine ⟨?_, Nat.le_of_lt h, Nat.le_refl _, Nat.le_max_right ..⟩
    split <;> rfl
  · rw [if_neg h]
    exact ⟨rfl, Nat.le_refl _, by omega, Nat.le_max_left ..⟩
theorem rank_all (r : Rf) (f : Nat) (x : Nt) (old : Bool) (d : Nat) : (r.rank f x old d).1.base = r.base ∧ (r.rank f x old d).1.term = r.term ∧ No7 (r.rank f x old d).2 := by
  unfold Rf.rank
  dsimp only
  refine ⟨by split <;> rfl, by split <;> rfl, ?_⟩
  have key : ∀ (r1 : Rf) (b : Bool), No7 (if b = true then r1.update (r1.put Ou.none f { nt 2 with round := x.round, yes := r.rankYes f x old }) f else r1.put Ou.none f { nt 2 with round := x.round, yes := r.rankYes f x old }) := by
    intro r1 b
    have h : No7 (r1.put Ou.none f { nt 2 with round := x.round, yes := r.rankYes f x old }) := by
      apply No7.put no7_none
      show ¬ (2 : Nat) = 7
      decide
    cases b
    · exact h
    · exact h.update _ _
  exact key _ _
theorem vote_all (r : Rf) (f : Nat) (x : Nt) (old : Bool) (d : Nat) : (r.vote f x old d).1.base = r.base ∧ (r.vote f x old d).1.term = r.term ∧ No7 (r.vote f x old d).2 := by
  unfold Rf.vote
  dsimp only
  refine ⟨by split <;> rfl, by split <;> rfl, ?_⟩
  apply No7.put no7_none
  show ¬ (4 : Nat) = 7
  decide
theorem No7.answer {o : Ou} (h : No7 o) (r : Rf) (f k : Nat) (y : Bool) : No7 (r.answer o f k y) := h.put _ _ (by show ¬ (6 : Nat) = 7; decide)
theorem led_all (r : Rf) (f : Nat) (x : Nt) (d : Nat) : ((r.led f x d).1.base = r.base ∨ (x.kind = 7 ∧ (r.led f x d).1.base = x.index)) ∧ (r.led f x d).1.term = r.term ∧ No7 (r.led f x d).2 := by
  unfold Rf.led Rf.led1
  dsimp only
  split
  · rename_i h7
    split
    · exact ⟨.inl rfl, rfl, no7_none.answer _ _ _ _⟩
    · split
      · exact ⟨.inr ⟨h7, rfl⟩, rfl, no7_none.answer _ _ _ _⟩
      · exact ⟨.inr ⟨h7, rfl⟩, rfl, no7_none.answer _ _ _ _⟩
  · split
    · exact ⟨.inl rfl, rfl, no7_none.answer _ _ _ _⟩
    · split
      · exact ⟨.inl rfl, rfl, no7_none.answer _ _ _ _⟩
      · split
        · exact ⟨.inl rfl, rfl, no7_none⟩
        · exact ⟨.inl rfl, rfl, No7.answer (o := { Ou.none with add := _ }) no7_none _ _ _ _⟩
theorem added_all (r : Rf) (f : Nat) (x : Nt) : (r.added f x).1.base = r.base ∧ (r.added f x).1.term = r.term ∧ No7 (r.added f x).2 := by
  unfold Rf.added
  split
  · exact ⟨rfl, rfl, no7_none.update _ _⟩
  · dsimp only
    refine ⟨rfl, rfl, ?_⟩
    split
    · exact no7_none.update _ _
    · exact no7_none
theorem hear_all (r : Rf) (f : Nat) (x : Nt) (d : Nat) : ((r.hear f x d).1.base = r.base ∨ (x.kind = 7 ∧ (r.hear f x d).1.base = x.index)) ∧ (r.hear f x d).1.term = (r.up x.term d).term ∧ No7 (r.hear f x d).2 := by
  have hb := (up_all r x.term d).1
  unfold Rf.hear
  dsimp only
  generalize r.up x.term d = r1 at *
  rw [← hb]
  have same : (r1.base = r1.base ∨ (x.kind = 7 ∧ r1.base = x.index)) ∧ r1.term = r1.term ∧ No7 Ou.none := ⟨.inl rfl, rfl, no7_none⟩
  split
  · have := rank_all r1 f x (decide (x.term < r1.term)) d
    exact ⟨.inl this.1, this.2⟩
  split
  · have := vote_all r1 f x (decide (x.term < r1.term)) d
    exact ⟨.inl this.1, this.2⟩
  split
  · split
    · refine ⟨.inl rfl, rfl, ?_⟩
      apply No7.put no7_none
      show ¬ (6 : Nat) = 7
      decide
    · split
      · exact led_all r1 f x d
      · exact same
  split
  · split
    · exact ⟨.inl rfl, rfl, no7_none⟩
    · exact same
  split
  · split
    · split
      · exact ⟨.inl rfl, rfl, no7_none.lead _⟩
      · exact ⟨.inl rfl, rfl, no7_none⟩
    · exact same
  split
  · split
    · have := added_all r1 f x
      exact ⟨.inl this.1, this.2⟩
    · exact same
  exact same
theorem propose_all (r : Rf) (d : List UInt8) : (r.propose d).1.base = r.base ∧ (r.propose d).1.term = r.term ∧ No7 (r.propose d).2 := by
  unfold Rf.propose
  split
  · exact ⟨rfl, rfl, no7_none⟩
  · exact ⟨rfl, rfl, No7.updates (o := r.addO Ou.none d) no7_none _⟩
end Rf
end Go.Proofs.Yteellfgiejnigaa.RS
