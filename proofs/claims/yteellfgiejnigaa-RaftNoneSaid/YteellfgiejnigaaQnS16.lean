/- Forms and bounds: a node's steps keep them. -/
import Derived.Test.YteellfgiejnigaaQnS15
namespace Go.Proofs.Yteellfgiejnigaa.RS
set_option linter.unusedVariables false
section
variable {T B : Nat} {r : Rf} {o : Ou}
/-- What came of a step is of form. -/
def Fo (T B : Nat) (res : Rf × Ou) : Prop := Fm T B res.1 ∧ OF B res.2
theorem Fm.tick (f : Fm T B r) (hl : r.last ≤ B) (d : Nat) : Fo T (B + 1) (r.tick d) := by
  have hT := f.tT
  have hT1 := f.T1
  have hlf := f.left
  have hq := f.quiet
  have hbt := f.beat
  have hrd := f.round
  have htm := f.term
  unfold Rf.tick
  split
  · dsimp only
    split
    · rename_i hb
      have f1 : Fm T B ({ r with beat := r.beat - 1 } : Rf).pulse := by
        have := Fm.pulse (r := r) f
        exact ⟨this.tT, this.T1, this.id, this.term, this.base, this.bt, this.es, this.commit, this.role, this.leader, this.left, this.quiet, this.beat, this.round, this.next, this.mt⟩
      exact ⟨f1.mono (Nat.le_succ B), (of_none.updates f1).mono (Nat.le_succ B)⟩
    · rename_i hb
      have hb' : ¬ (r.beat - 1 ≤ 0) := hb
      exact ⟨Fm.mono (B := B) ⟨f.tT, f.T1, f.id, f.term, f.base, f.bt, f.es, f.commit, f.role, f.leader, f.left, f.quiet, by show 0 ≤ r.beat - 1 ∧ r.beat - 1 ≤ (T : Int); omega, f.round, f.next, f.mt⟩ (Nat.le_succ B), of_none⟩
  · dsimp only
    have q1 : 0 ≤ min (r.quiet + 1) (r.T : Int) ∧ min (r.quiet + 1) (r.T : Int) ≤ (T : Int) := by omega
    split
    · rename_i h0
      have h0' : 0 < r.left - 1 := h0
      exact ⟨Fm.mono (B := B) ⟨f.tT, f.T1, f.id, f.term, f.base, f.bt, f.es, f.commit, f.role, f.leader, by show 1 ≤ r.left - 1 ∧ r.left - 1 ≤ 2 * (T : Int); omega, q1, f.beat, f.round, f.next, f.mt⟩ (Nat.le_succ B), of_none⟩
    · split
      · have f1 : Fm T (B + 1) (({ r with quiet := min (r.quiet + 1) (r.T : Int), left := 2 * (r.T : Int), role := 1, round := r.round + 1 } : Rf).alone) :=
          ⟨f.tT, f.T1, f.id, Nat.le_succ_of_le f.term, Nat.le_succ_of_le f.base, Nat.le_succ_of_le f.bt, fun e he => (f.es e he).mono (Nat.le_succ B), Nat.le_succ_of_le f.commit, by show 1 ≤ 3; decide, f.leader, by show 1 ≤ 2 * (r.T : Int) ∧ 2 * (r.T : Int) ≤ 2 * (T : Int); omega, q1, f.beat, by show r.round + 1 ≤ B + 1; omega, fun q => Nat.le_succ_of_le (f.next q), fun q => Nat.le_succ_of_le (f.mt q)⟩
        exact ⟨f1, of_none.ask f1 (Nat.le_succ_of_le hl) (.inl rfl)⟩
      · split
        · have f1 : Fm T (B + 1) (({ r with quiet := min (r.quiet + 1) (r.T : Int), left := (r.T : Int), role := 2, who := (r.id : Int), leader := -1, term := r.term + 1 } : Rf).alone) :=
            ⟨f.tT, f.T1, f.id, by show r.term + 1 ≤ B + 1; omega, Nat.le_succ_of_le f.base, Nat.le_succ_of_le f.bt, fun e he => (f.es e he).mono (Nat.le_succ B), Nat.le_succ_of_le f.commit, by show 2 ≤ 3; decide, by show (-1 : Int) ≤ -1 ∧ (-1 : Int) < (r.n : Int); omega, by show 1 ≤ (r.T : Int) ∧ (r.T : Int) ≤ 2 * (T : Int); omega, q1, f.beat, Nat.le_succ_of_le f.round, fun q => Nat.le_succ_of_le (f.next q), fun q => Nat.le_succ_of_le (f.mt q)⟩
          have o1 := of_none.ask f1 (Nat.le_succ_of_le hl) (.inr rfl)
          split
          · exact f1.lead hl o1
          · exact ⟨f1, o1⟩
        · have f1 : Fm T B { r with quiet := min (r.quiet + 1) (r.T : Int) } := ⟨f.tT, f.T1, f.id, f.term, f.base, f.bt, f.es, f.commit, f.role, f.leader, f.left, q1, f.beat, f.round, f.next, f.mt⟩
          have f2 := f1.follow d
          exact ⟨Fm.mono (B := B) ⟨f2.tT, f2.T1, f2.id, f2.term, f2.base, f2.bt, f2.es, f2.commit, f2.role, f2.leader, f2.left, f2.quiet, f2.beat, f2.round, f2.next, f2.mt⟩ (Nat.le_succ B), of_none⟩
theorem Fm.up (f : Fm T B r) {t : Nat} (ht : t ≤ B) (d : Nat) : Fm T B (r.up t d) := by
  unfold Rf.up
  by_cases h : r.term < t
  · rw [if_pos h]
    have key : ∀ {r1 : Rf}, Fm T B r1 → Fm T B { r1 with term := t, who := -1, role := 0, leader := -1 } := fun {r1} f => by
      have := f.id
      exact ⟨f.tT, f.T1, f.id, ht, f.base, f.bt, f.es, f.commit, Nat.zero_le _, by show (-1 : Int) ≤ -1 ∧ (-1 : Int) < (r1.n : Int); omega, f.left, f.quiet, f.beat, f.round, f.next, f.mt⟩
    dsimp only
    split
    · exact key (f.draw d)
    · exact key f
  · rw [if_neg h]; exact f
theorem Fm.rank (f : Fm T B r) {x : Nt} (hx : Mf B x) (g : Nat) (old : Bool) (d : Nat) : Fo T B (r.rank g x old d) := by
  unfold Rf.rank
  dsimp only
  have key : ∀ {r1 : Rf} (b : Bool), Fm T B r1 → Fo T B (r1, if b = true then r1.update (r1.put Ou.none g { Rf.nt 2 with round := x.round, yes := r.rankYes g x old }) g else r1.put Ou.none g { Rf.nt 2 with round := x.round, yes := r.rankYes g x old }) := by
    intro r1 b f1
    have h := of_none.put r1 g (x := { Rf.nt 2 with round := x.round, yes := r.rankYes g x old }) (f1.yield hx.round.1 _)
    refine ⟨f1, ?_⟩
    cases b
    · exact h
    · exact h.update f1 _
  by_cases e : r.rankYes g x old = true
  · rw [if_pos e]; exact key _ (f.follow d)
  · rw [if_neg e]; exact key _ f
theorem Fm.vote (f : Fm T B r) (x : Nt) (g : Nat) (old : Bool) (d : Nat) : Fo T B (r.vote g x old d) := by
  unfold Rf.vote
  dsimp only
  have key : ∀ {r1 : Rf}, Fm T B r1 → Fo T B (r1, r1.put Ou.none g { Rf.nt 4 with yes := r.voteYes g x old }) := fun {r1} f1 => ⟨f1, of_none.put r1 g (f1.voted _)⟩
  by_cases e : r.voteYes g x old = true
  · rw [if_pos e]
    exact key (Fm.follow (r := { r with who := (g : Int) }) ⟨f.tT, f.T1, f.id, f.term, f.base, f.bt, f.es, f.commit, f.role, f.leader, f.left, f.quiet, f.beat, f.round, f.next, f.mt⟩ d)
  · rw [if_neg e]; exact key f
theorem meetR_mem {b t : Nat} {es : Log} {p q : Nat} {ss : Log} {e : Nat × List UInt8} (h : e ∈ (meetR b t es p q ss).2.1) : e ∈ ss := by
  unfold meetR at h
  split at h
  · cases h
  · split at h
    · cases h
    · split at h
      · cases h
      · exact List.mem_of_mem_drop h
theorem OF.answer (f : Fm T B r) (h : OF B o) (g : Nat) {k : Nat} (hk : k ≤ B) (y : Bool) : OF B (r.answer o g k y) := OF.put h r g (f.answer hk y)
theorem Fm.led (f : Fm T B r) (hl : r.last ≤ B) {x : Nt} (hx : Mf B x) (hth : x.kind = 5 → x.index + x.list.length ≤ B) (h57 : x.kind = 5 ∨ x.kind = 7) {g : Nat} (hg : g < r.n) (d : Nat) : Fo T B (r.led g x d) := by
  have f0 := f.follow d
  have hT1 := f.T1
  have f1 : Fm T B { r.follow d with leader := (g : Int), quiet := 0 } := ⟨f0.tT, f0.T1, f0.id, f0.term, f0.base, f0.bt, f0.es, f0.commit, f0.role, by show (-1 : Int) ≤ (g : Int) ∧ (g : Int) < (r.n : Int); omega, f0.left, by show (0 : Int) ≤ 0 ∧ (0 : Int) ≤ (T : Int); omega, f0.beat, f0.round, f0.next, f0.mt⟩
  have hl1 : ({ r.follow d with leader := (g : Int), quiet := 0 } : Rf).last ≤ B := hl
  unfold Rf.led
  generalize ({ r.follow d with leader := (g : Int), quiet := 0 } : Rf) = r1 at *
  unfold Rf.led1
  dsimp only
  split
  · split
    · exact ⟨f1, OF.answer f1 of_none g f1.commit true⟩
    · split
      · have f2 : Fm T B { r1 with base := x.index, bt := x.at_, es := r1.es.drop (x.index - r1.base), commit := x.index } := ⟨f1.tT, f1.T1, f1.id, f1.term, hx.index.1, hx.at_.1, fun e he => f1.es e (List.mem_of_mem_drop he), hx.index.1, f1.role, f1.leader, f1.left, f1.quiet, f1.beat, f1.round, f1.next, f1.mt⟩
        exact ⟨f2, OF.answer f2 of_none g hx.index.1 true⟩
      · have f2 : Fm T B { r1 with base := x.index, bt := x.at_, es := [], commit := x.index } := ⟨f1.tT, f1.T1, f1.id, f1.term, hx.index.1, hx.at_.1, fun e he => (by cases he), hx.index.1, f1.role, f1.leader, f1.left, f1.quiet, f1.beat, f1.round, f1.next, f1.mt⟩
        exact ⟨f2, OF.answer f2 of_none g hx.index.1 true⟩
  · rename_i h7
    have h5 : x.kind = 5 := by rcases h57 with h | h; exact h; exact absurd h h7
    have ht := hth h5
    split
    · exact ⟨f1, OF.answer f1 of_none g (by omega) false⟩
    · split
      · exact ⟨f1, OF.answer f1 of_none g f1.base true⟩
      · split
        · exact ⟨f1, of_none⟩
        · have f2 : Fm T B { r1 with es := if (meetR r1.base r1.bt r1.es x.index x.at_ x.list).2.1 = [] then r1.es else r1.es.take ((meetR r1.base r1.bt r1.es x.index x.at_ x.list).1 - r1.base) ++ (meetR r1.base r1.bt r1.es x.index x.at_ x.list).2.1, commit := max r1.commit (min x.commit (x.index + x.list.length)) } := by
            refine ⟨f1.tT, f1.T1, f1.id, f1.term, f1.base, f1.bt, fun e he => ?_, ?_, f1.role, f1.leader, f1.left, f1.quiet, f1.beat, f1.round, f1.next, f1.mt⟩
            · have he' : e ∈ (if (meetR r1.base r1.bt r1.es x.index x.at_ x.list).2.1 = [] then r1.es else r1.es.take ((meetR r1.base r1.bt r1.es x.index x.at_ x.list).1 - r1.base) ++ (meetR r1.base r1.bt r1.es x.index x.at_ x.list).2.1) := he
              split at he'
              · exact f1.es e he'
              · rcases List.mem_append.1 he' with h | h
                · exact f1.es e (List.mem_of_mem_take h)
                · exact hx.list.2.2 e (meetR_mem h)
            · have := f1.commit
              show max r1.commit (min x.commit (x.index + x.list.length)) ≤ B
              omega
          exact ⟨f2, OF.answer (o := { Ou.none with add := _ }) f2 of_none g ht true⟩
theorem Fm.added (f : Fm T B r) (hl : r.last ≤ B) {x : Nt} (hx : Mf B x) (g : Nat) : Fo T B (r.added g x) := by
  have hi := hx.index.1
  have hn := f.next g
  have hm := f.mt g
  unfold Rf.added
  split
  · have f1 : Fm T B { r with next := fun i => if i = g then max (min (r.next g - 1) (x.index + 1)) (r.mt g + 1) else r.next i } := by
      refine ⟨f.tT, f.T1, f.id, f.term, f.base, f.bt, f.es, f.commit, f.role, f.leader, f.left, f.quiet, f.beat, f.round, fun q => ?_, f.mt⟩
      show (if q = g then max (min (r.next g - 1) (x.index + 1)) (r.mt g + 1) else r.next q) ≤ B + 1
      split
      · omega
      · exact f.next q
    exact ⟨f1, of_none.update f1 g⟩
  · dsimp only
    have f1 : Fm T B { r with mt := fun i => if i = g then max (r.mt g) (min x.index r.last) else r.mt i, next := fun i => if i = g then max (r.mt g) (min x.index r.last) + 1 else r.next i } := by
      refine ⟨f.tT, f.T1, f.id, f.term, f.base, f.bt, f.es, f.commit, f.role, f.leader, f.left, f.quiet, f.beat, f.round, fun q => ?_, fun q => ?_⟩
      · show (if q = g then max (r.mt g) (min x.index r.last) + 1 else r.next q) ≤ B + 1
        split
        · omega
        · exact f.next q
      · show (if q = g then max (r.mt g) (min x.index r.last) else r.mt q) ≤ B
        split
        · omega
        · exact f.mt q
    have f2 := f1.see hl
    refine ⟨f2, ?_⟩
    split
    · exact of_none.update f2 g
    · exact of_none
theorem Fo.mono {C : Nat} {res : Rf × Ou} (h : Fo T B res) (hc : B ≤ C) : Fo T C res := ⟨h.1.mono hc, h.2.mono hc⟩
theorem up_last (r : Rf) (t d : Nat) : (r.up t d).last = r.last ∧ (r.up t d).n = r.n := by
  unfold Rf.up
  by_cases h : r.term < t
  · rw [if_pos h]
    dsimp only
    split <;> exact ⟨rfl, rfl⟩
  · rw [if_neg h]; exact ⟨rfl, rfl⟩
theorem Fm.hear (f : Fm T B r) (hl : r.last ≤ B) {x : Nt} (hx : Mf B x) (hth : x.kind = 5 → x.index + x.list.length ≤ B) {g : Nat} (hg : g < r.n) (d : Nat) : Fo T (B + 1) (r.hear g x d) := by
  have f1 := f.up hx.term d
  obtain ⟨e1, e2⟩ := up_last r x.term d
  unfold Rf.hear
  dsimp only
  generalize r.up x.term d = r1 at *
  have hB := Nat.le_succ B
  have same : Fo T (B + 1) (r1, Ou.none) := ⟨f1.mono hB, of_none⟩
  have side : ∀ s : Nat → Bool, Fm T B { r1 with sides := s } := fun s => ⟨f1.tT, f1.T1, f1.id, f1.term, f1.base, f1.bt, f1.es, f1.commit, f1.role, f1.leader, f1.left, f1.quiet, f1.beat, f1.round, f1.next, f1.mt⟩
  split
  · exact (f1.rank hx g _ d).mono hB
  split
  · exact (f1.vote x g _ d).mono hB
  split
  · rename_i h57
    split
    · exact Fo.mono (B := B) ⟨f1, of_none.put r1 g (f1.answer (Nat.zero_le _) false)⟩ hB
    · split
      · exact (f1.led (by omega) hx hth h57 (by omega) d).mono hB
      · exact same
  split
  · split
    · exact ⟨(side _).mono hB, of_none⟩
    · exact same
  split
  · split
    · split
      · exact ((side _).mono hB).lead (by show r1.last ≤ B; omega) of_none
      · exact ⟨(side _).mono hB, of_none⟩
    · exact same
  split
  · split
    · exact (f1.added (by omega) hx g).mono hB
    · exact same
  exact same
theorem Fm.propose (f : Fm T B r) (hl : r.last ≤ B) (d : List UInt8) : Fo T (B + 1) (r.propose d) := by
  unfold Rf.propose
  split
  · exact ⟨f.mono (Nat.le_succ B), of_none⟩
  · rename_i h
    have f1 := ((f.mono (Nat.le_succ B)).add (d := d) (by omega)).see (by rw [last_add]; omega)
    exact ⟨f1, OF.updates (o := r.addO Ou.none d) of_none f1⟩
theorem Fm.pack (f : Fm T B r) : Fm T B r.pack :=
  ⟨f.tT, f.T1, f.id, f.term, f.commit, f.termAt _, fun e he => f.es e (List.mem_of_mem_drop he), f.commit, f.role, f.leader, f.left, f.quiet, f.beat, f.round, f.next, f.mt⟩
theorem Fm.crash (f : Fm T B r) (d : Nat) : Fm T B (r.crash d) := by
  have hT := f.tT
  refine Fm.draw (r := { r with commit := r.base, role := 0, leader := -1, left := 1, quiet := (r.T : Int), beat := 0, round := 0, sides := fun _ => false, next := fun _ => 0, mt := fun _ => 0 }) ⟨f.tT, f.T1, f.id, f.term, f.base, f.bt, f.es, f.base, Nat.zero_le _, ?_, ?_, ?_, ?_, Nat.zero_le _, fun _ => Nat.zero_le _, fun _ => Nat.zero_le _⟩ d
  · show (-1 : Int) ≤ -1 ∧ (-1 : Int) < (r.n : Int); omega
  · have := f.T1
    show (1 : Int) ≤ 1 ∧ (1 : Int) ≤ 2 * (T : Int); omega
  · show (0 : Int) ≤ (r.T : Int) ∧ (r.T : Int) ≤ (T : Int); omega
  · show (0 : Int) ≤ 0 ∧ (0 : Int) ≤ (T : Int); omega
end
end Go.Proofs.Yteellfgiejnigaa.RS
