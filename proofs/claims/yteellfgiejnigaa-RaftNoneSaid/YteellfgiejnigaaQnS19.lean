/- One node alone: what known() looks at, of the model. -/
import Derived.Test.YteellfgiejnigaaQnS18
namespace Go.Proofs.Yteellfgiejnigaa.RS
set_option linter.unusedVariables false
/-- A node alone, behind so many ticks. -/
def alone : Nat → Rf
  | 0 => Rf.init 1 0 3 1
  | k + 1 => ((alone k).tick 0).1
/-- The world of it: all that a walk wants holds. -/
theorem alone_known : (alone 10).role = 3 ∧ (alone 10).term = 1 ∧ ((alone 10).propose [97]).1.role = 3 ∧ ((alone 10).propose [97]).1.term = 1 ∧ ((alone 10).propose [97]).1.commit = 2 ∧ ((alone 10).propose [97]).1.last = 2 ∧ ((alone 10).propose [97]).2.add.length = 1 ∧ (alone 10).last = 1 := by decide
/-- A step in a world of one: bounds for the walk, without a world. -/
structure One (B : Nat) (r : Rf) : Prop where
  fm : Fm 3 B r
  n : r.n = 1
  id : r.id = 0
  last : r.last ≤ B
theorem one0 : One 3 (alone 0) := by
  refine ⟨Fm.draw (r := ({ n := 1, id := 0, T := 3, term := 0, who := -1, base := 0, bt := 0, es := [], commit := 0, role := 0, leader := -1, left := 1, quiet := 3, beat := 0, round := 0, sides := fun _ => false, next := fun _ => 0, mt := fun _ => 0 } : Rf)) ⟨rfl, by decide, by decide, by decide, by decide, by decide, fun e he => (by cases he), by decide, by decide, by decide, by decide, by decide, by decide, by decide, fun _ => Nat.zero_le _, fun _ => Nat.zero_le _⟩ 1, rfl, rfl, by decide⟩
theorem tick_len (r : Rf) (d : Nat) : (r.tick d).1.n = r.n ∧ (r.tick d).1.id = r.id ∧ (r.tick d).1.last ≤ r.last + 1 := by
  unfold Rf.tick
  split
  · dsimp only
    split <;> exact ⟨rfl, rfl, Nat.le_succ _⟩
  · dsimp only
    split
    · exact ⟨rfl, rfl, Nat.le_succ _⟩
    · split
      · exact ⟨rfl, rfl, Nat.le_succ _⟩
      · split
        · split
          · refine ⟨rfl, rfl, ?_⟩
            have := last_add (({ r with quiet := min (r.quiet + 1) (r.T : Int), left := (r.T : Int), role := 2, who := (r.id : Int), leader := -1, term := r.term + 1 } : Rf).alone).lead0 []
            exact Nat.le_of_eq this
          · exact ⟨rfl, rfl, Nat.le_succ _⟩
        · exact ⟨rfl, rfl, Nat.le_succ _⟩
theorem One.tick {B : Nat} {r : Rf} (h : One B r) (d : Nat) : One (B + 1) (r.tick d).1 := by
  obtain ⟨a, b, c⟩ := tick_len r d
  exact ⟨(h.fm.tick h.last d).1, a.trans h.n, b.trans h.id, by have := h.last; omega⟩
theorem alone_one : ∀ k, One (3 + k) (alone k)
  | 0 => one0
  | k + 1 => (alone_one k).tick 0
end Go.Proofs.Yteellfgiejnigaa.RS
