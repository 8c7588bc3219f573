/- RaftSafe: S16, S17, S18, S19. -/
import Derived.Test.YteellfgiejnigaaQtA09
namespace Go.Proofs.Yteellfgiejnigaa.RS
set_option linter.unusedVariables false
section
variable {T B : Nat} {r : Rf} {o : Ou}
def Fo (T B : Nat) (res : Rf × Ou) : Prop := Fm T B res.1 ∧ OF B res.2
theorem Fm.tick (f : Fm T B r) (hl : r.last ≤ B) (d : Nat) : Fo T (B + 1) (r.tick d) := by
 have hT := f.tT
 have hT1 := f.T1
 have hlf := f.left
 have hq := f.quiet
 have hbt := f.beat
 have hrd := f.round
 have htm := f.term
 unfold Rf.tick
 split
 · dsimp only
   split
   · rename_i hb
     have f1 : Fm T B ({ r with beat := r.beat - 1 } : Rf).pulse := by
      have := Fm.pulse (r := r) f
      exact ⟨this.tT, this.T1, this.id, this.term, this.base, this.bt, this.es, this.commit, this.role, this.leader, this.left, this.quiet, this.beat, this.round, this.next, this.mt⟩
     exact ⟨f1.mono (Nat.le_succ B), (of_none.updates f1).mono (Nat.le_succ B)⟩
   · rename_i hb
     have hb' : ¬ (r.beat - 1 ≤ 0) := hb
     exact ⟨Fm.mono (B := B) ⟨f.tT, f.T1, f.id, f.term, f.base, f.bt, f.es, f.commit, f.role, f.leader, f.left, f.quiet, by show 0 ≤ r.beat - 1 ∧ r.beat - 1 ≤ (T : Int); omega, f.round, f.next, f.mt⟩ (Nat.le_succ B), of_none⟩
 · dsimp only
   have q1 : 0 ≤ min (r.quiet + 1) (r.T : Int) ∧ min (r.quiet + 1) (r.T : Int) ≤ (T : Int) := by omega
   split
   · rename_i h0
     have h0' : 0 < r.left - 1 := h0
     exact ⟨Fm.mono (B := B) ⟨f.tT, f.T1, f.id, f.term, f.base, f.bt, f.es, f.commit, f.role, f.leader, by show 1 ≤ r.left - 1 ∧ r.left - 1 ≤ 2 * (T : Int); omega, q1, f.beat, f.round, f.next, f.mt⟩ (Nat.le_succ B), of_none⟩
   · split
     · have f1 : Fm T (B + 1) (({ r with quiet := min (r.quiet + 1) (r.T : Int), left := 2 * (r.T : Int), role := 1, round := r.round + 1 } : Rf).alone) :=
        ⟨f.tT, f.T1, f.id, Nat.le_succ_of_le f.term, Nat.le_succ_of_le f.base, Nat.le_succ_of_le f.bt, fun e he => (f.es e he).mono (Nat.le_succ B), Nat.le_succ_of_le f.commit, by show 1 ≤ 3; decide, f.leader, by show 1 ≤ 2 * (r.T : Int) ∧ 2 * (r.T : Int) ≤ 2 * (T : Int); omega, q1, f.beat, by show r.round + 1 ≤ B + 1; omega, fun q => Nat.le_succ_of_le (f.next q), fun q => Nat.le_succ_of_le (f.mt q)⟩
       exact ⟨f1, of_none.ask f1 (Nat.le_succ_of_le hl) (.inl rfl)⟩
     · split
       · have f1 : Fm T (B + 1) (({ r with quiet := min (r.quiet + 1) (r.T : Int), left := (r.T : Int), role := 2, who := (r.id : Int), leader := -1, term := r.term + 1 } : Rf).alone) :=
          ⟨f.tT, f.T1, f.id, by show r.term + 1 ≤ B + 1; omega, Nat.le_succ_of_le f.base, Nat.le_succ_of_le f.bt, fun e he => (f.es e he).mono (Nat.le_succ B), Nat.le_succ_of_le f.commit, by show 2 ≤ 3; decide, by show (-1 : Int) ≤ -1 ∧ (-1 : Int) < (r.n : Int); omega, by show 1 ≤ (r.T : Int) ∧ (r.T : Int) ≤ 2 * (T : Int); omega, q1, f.beat, Nat.le_succ_of_le f.round, fun q => Nat.le_succ_of_le (f.next q), fun q => Nat.le_succ_of_le (f.mt q)⟩
         have o1 := of_none.ask f1 (Nat.le_succ_of_le hl) (.inr rfl)
         split
         · exact f1.lead hl o1
         · exact ⟨f1, o1⟩
       · have f1 : Fm T B { r with quiet := min (r.quiet + 1) (r.T : Int) } := ⟨f.tT, f.T1, f.id, f.term, f.base, f.bt, f.es, f.commit, f.role, f.leader, f.left, q1, f.beat, f.round, f.next, f.mt⟩
         have f2 := f1.follow d
         exact ⟨Fm.mono (B := B) ⟨f2.tT, f2.T1, f2.id, f2.term, f2.base, f2.bt, f2.es, f2.commit, f2.role, f2.leader, f2.left, f2.quiet, f2.beat, f2.round, f2.next, f2.mt⟩ (Nat.le_succ B), of_none⟩
theorem Fm.up (f : Fm T B r) {t : Nat} (ht : t ≤ B) (d : Nat) : Fm T B (r.up t d) := by
 unfold Rf.up
 by_cases h : r.term < t
 · rw [if_pos h]
   have key : ∀ {r1 : Rf}, Fm T B r1 → Fm T B { r1 with term := t, who := -1, role := 0, leader := -1 } := fun {r1} f => by
    have := f.id
    exact ⟨f.tT, f.T1, f.id, ht, f.base, f.bt, f.es, f.commit, Nat.zero_le _, by show (-1 : Int) ≤ -1 ∧ (-1 : Int) < (r1.n : Int); omega, f.left, f.quiet, f.beat, f.round, f.next, f.mt⟩
   dsimp only
   split
   · exact key (f.draw d)
   · exact key f
 · rw [if_neg h]; exact f
theorem Fm.rank (f : Fm T B r) {x : Nt} (hx : Mf B x) (g : Nat) (old : Bool) (d : Nat) : Fo T B (r.rank g x old d) := by
 unfold Rf.rank
 dsimp only
 have key : ∀ {r1 : Rf} (b : Bool), Fm T B r1 → Fo T B (r1, if b = true then r1.update (r1.put Ou.none g { Rf.nt 2 with round := x.round, yes := r.rankYes g x old }) g else r1.put Ou.none g { Rf.nt 2 with round := x.round, yes := r.rankYes g x old }) := by
  intro r1 b f1
  have h := of_none.put r1 g (x := { Rf.nt 2 with round := x.round, yes := r.rankYes g x old }) (f1.yield hx.round.1 _)
  refine ⟨f1, ?_⟩
  cases b
  · exact h
  · exact h.update f1 _
 by_cases e : r.rankYes g x old = true
 · rw [if_pos e]; exact key _ (f.follow d)
 · rw [if_neg e]; exact key _ f
theorem Fm.vote (f : Fm T B r) (x : Nt) (g : Nat) (old : Bool) (d : Nat) : Fo T B (r.vote g x old d) := by
 unfold Rf.vote
 dsimp only
 have key : ∀ {r1 : Rf}, Fm T B r1 → Fo T B (r1, r1.put Ou.none g { Rf.nt 4 with yes := r.voteYes g x old }) := fun {r1} f1 => ⟨f1, of_none.put r1 g (f1.voted _)⟩
 by_cases e : r.voteYes g x old = true
 · rw [if_pos e]
   exact key (Fm.follow (r := { r with who := (g : Int) }) ⟨f.tT, f.T1, f.id, f.term, f.base, f.bt, f.es, f.commit, f.role, f.leader, f.left, f.quiet, f.beat, f.round, f.next, f.mt⟩ d)
 · rw [if_neg e]; exact key f
theorem meetR_mem {b t : Nat} {es : Log} {p q : Nat} {ss : Log} {e : Nat × List UInt8} (h : e ∈ (meetR b t es p q ss).2.1) : e ∈ ss := by
 unfold meetR at h
 split at h
 · cases h
 · split at h
   · cases h
   · split at h
     · cases h
     · exact List.mem_of_mem_drop h
theorem OF.answer (f : Fm T B r) (h : OF B o) (g : Nat) {k : Nat} (hk : k ≤ B) (y : Bool) : OF B (r.answer o g k y) := OF.put h r g (f.answer hk y)
theorem Fm.led (f : Fm T B r) (hl : r.last ≤ B) {x : Nt} (hx : Mf B x) (hth : x.kind = 5 → x.index + x.list.length ≤ B) (h57 : x.kind = 5 ∨ x.kind = 7) {g : Nat} (hg : g < r.n) (d : Nat) : Fo T B (r.led g x d) := by
 have f0 := f.follow d
 have hT1 := f.T1
 have f1 : Fm T B { r.follow d with leader := (g : Int), quiet := 0 } := ⟨f0.tT, f0.T1, f0.id, f0.term, f0.base, f0.bt, f0.es, f0.commit, f0.role, by show (-1 : Int) ≤ (g : Int) ∧ (g : Int) < (r.n : Int); omega, f0.left, by show (0 : Int) ≤ 0 ∧ (0 : Int) ≤ (T : Int); omega, f0.beat, f0.round, f0.next, f0.mt⟩
 have hl1 : ({ r.follow d with leader := (g : Int), quiet := 0 } : Rf).last ≤ B := hl
 unfold Rf.led
 generalize ({ r.follow d with leader := (g : Int), quiet := 0 } : Rf) = r1 at *
 unfold Rf.led1
 dsimp only
 split
 · split
   · exact ⟨f1, OF.answer f1 of_none g f1.commit true⟩
   · split
     · have f2 : Fm T B { r1 with base := x.index, bt := x.at_, es := r1.es.drop (x.index - r1.base), commit := x.index } := ⟨f1.tT, f1.T1, f1.id, f1.term, hx.index.1, hx.at_.1, fun e he => f1.es e (List.mem_of_mem_drop he), hx.index.1, f1.role, f1.leader, f1.left, f1.quiet, f1.beat, f1.round, f1.next, f1.mt⟩
       exact ⟨f2, OF.answer f2 of_none g hx.index.1 true⟩
     · have f2 : Fm T B { r1 with base := x.index, bt := x.at_, es := [], commit := x.index } := ⟨f1.tT, f1.T1, f1.id, f1.term, hx.index.1, hx.at_.1, fun e he => (by cases he), hx.index.1, f1.role, f1.leader, f1.left, f1.quiet, f1.beat, f1.round, f1.next, f1.mt⟩
       exact ⟨f2, OF.answer f2 of_none g hx.index.1 true⟩
 · rename_i h7
   have h5 : x.kind = 5 := by rcases h57 with h | h; exact h; exact absurd h h7
   have ht := hth h5
   split
   · exact ⟨f1, OF.answer f1 of_none g (by omega) false⟩
   · split
     · exact ⟨f1, OF.answer f1 of_none g f1.base true⟩
     · split
       · exact ⟨f1, of_none⟩
       · have f2 : Fm T B { r1 with es := if (meetR r1.base r1.bt r1.es x.index x.at_ x.list).2.1 = [] then r1.es else r1.es.take ((meetR r1.base r1.bt r1.es x.index x.at_ x.list).1 - r1.base) ++ (meetR r1.base r1.bt r1.es x.index x.at_ x.list).2.1, commit := max r1.commit (min x.commit (x.index + x.list.length)) } := by
          refine ⟨f1.tT, f1.T1, f1.id, f1.term, f1.base, f1.bt, fun e he => ?_, ?_, f1.role, f1.leader, f1.left, f1.quiet, f1.beat, f1.round, f1.next, f1.mt⟩
          · have he' : e ∈ (if (meetR r1.base r1.bt r1.es x.index x.at_ x.list).2.1 = [] then r1.es else r1.es.take ((meetR r1.base r1.bt r1.es x.index x.at_ x.list).1 - r1.base) ++ (meetR r1.base r1.bt r1.es x.index x.at_ x.list).2.1) := he
            split at he'
            · exact f1.es e he'
            · rcases List.mem_append.1 he' with h | h
              · exact f1.es e (List.mem_of_mem_take h)
              · exact hx.list.2.2 e (meetR_mem h)
          · have := f1.commit
            show max r1.commit (min x.commit (x.index + x.list.length)) ≤ B
            omega
         exact ⟨f2, OF.answer (o := { Ou.none with add := _ }) f2 of_none g ht true⟩
theorem Fm.added (f : Fm T B r) (hl : r.last ≤ B) {x : Nt} (hx : Mf B x) (g : Nat) : Fo T B (r.added g x) := by
 have hi := hx.index.1
 have hn := f.next g
 have hm := f.mt g
 unfold Rf.added
 split
 · have f1 : Fm T B { r with next := fun i => if i = g then max (min (r.next g - 1) (x.index + 1)) (r.mt g + 1) else r.next i } := by
    refine ⟨f.tT, f.T1, f.id, f.term, f.base, f.bt, f.es, f.commit, f.role, f.leader, f.left, f.quiet, f.beat, f.round, fun q => ?_, f.mt⟩
    show (if q = g then max (min (r.next g - 1) (x.index + 1)) (r.mt g + 1) else r.next q) ≤ B + 1
    split
    · omega
    · exact f.next q
   exact ⟨f1, of_none.update f1 g⟩
 · dsimp only
   have f1 : Fm T B { r with mt := fun i => if i = g then max (r.mt g) (min x.index r.last) else r.mt i, next := fun i => if i = g then max (r.mt g) (min x.index r.last) + 1 else r.next i } := by
    refine ⟨f.tT, f.T1, f.id, f.term, f.base, f.bt, f.es, f.commit, f.role, f.leader, f.left, f.quiet, f.beat, f.round, fun q => ?_, fun q => ?_⟩
    · show (if q = g then max (r.mt g) (min x.index r.last) + 1 else r.next q) ≤ B + 1
      split
      · omega
      · exact f.next q
    · show (if q = g then max (r.mt g) (min x.index r.last) else r.mt q) ≤ B
      split
      · omega
      · exact f.mt q
   have f2 := f1.see hl
   refine ⟨f2, ?_⟩
   split
   · exact of_none.update f2 g
   · exact of_none
theorem Fo.mono {C : Nat} {res : Rf × Ou} (h : Fo T B res) (hc : B ≤ C) : Fo T C res := ⟨h.1.mono hc, h.2.mono hc⟩
theorem up_last (r : Rf) (t d : Nat) : (r.up t d).last = r.last ∧ (r.up t d).n = r.n := by
 unfold Rf.up
 by_cases h : r.term < t
 · rw [if_pos h]
   dsimp only
   split <;> exact ⟨rfl, rfl⟩
 · rw [if_neg h]; exact ⟨rfl, rfl⟩
theorem Fm.hear (f : Fm T B r) (hl : r.last ≤ B) {x : Nt} (hx : Mf B x) (hth : x.kind = 5 → x.index + x.list.length ≤ B) {g : Nat} (hg : g < r.n) (d : Nat) : Fo T (B + 1) (r.hear g x d) := by
 have f1 := f.up hx.term d
 obtain ⟨e1, e2⟩ := up_last r x.term d
 unfold Rf.hear
 dsimp only
 generalize r.up x.term d = r1 at *
 have hB := Nat.le_succ B
 have same : Fo T (B + 1) (r1, Ou.none) := ⟨f1.mono hB, of_none⟩
 have side : ∀ s : Nat → Bool, Fm T B { r1 with sides := s } := fun s => ⟨f1.tT, f1.T1, f1.id, f1.term, f1.base, f1.bt, f1.es, f1.commit, f1.role, f1.leader, f1.left, f1.quiet, f1.beat, f1.round, f1.next, f1.mt⟩
 split
 · exact (f1.rank hx g _ d).mono hB
 split
 · exact (f1.vote x g _ d).mono hB
 split
 · rename_i h57
   split
   · exact Fo.mono (B := B) ⟨f1, of_none.put r1 g (f1.answer (Nat.zero_le _) false)⟩ hB
   · split
     · exact (f1.led (by omega) hx hth h57 (by omega) d).mono hB
     · exact same
 split
 · split
   · exact ⟨(side _).mono hB, of_none⟩
   · exact same
 split
 · split
   · split
     · exact ((side _).mono hB).lead (by show r1.last ≤ B; omega) of_none
     · exact ⟨(side _).mono hB, of_none⟩
   · exact same
 split
 · split
   · exact (f1.added (by omega) hx g).mono hB
   · exact same
 exact same
theorem Fm.propose (f : Fm T B r) (hl : r.last ≤ B) (d : List UInt8) : Fo T (B + 1) (r.propose d) := by
 unfold Rf.propose
 split
 · exact ⟨f.mono (Nat.le_succ B), of_none⟩
 · rename_i h
   have f1 := ((f.mono (Nat.le_succ B)).add (d := d) (by omega)).see (by rw [last_add]; omega)
   exact ⟨f1, OF.updates (o := r.addO Ou.none d) of_none f1⟩
theorem Fm.pack (f : Fm T B r) : Fm T B r.pack :=
 ⟨f.tT, f.T1, f.id, f.term, f.commit, f.termAt _, fun e he => f.es e (List.mem_of_mem_drop he), f.commit, f.role, f.leader, f.left, f.quiet, f.beat, f.round, f.next, f.mt⟩
theorem Fm.crash (f : Fm T B r) (d : Nat) : Fm T B (r.crash d) := by
 have hT := f.tT
 refine Fm.draw (r := { r with commit := r.base, role := 0, leader := -1, left := 1, quiet := (r.T : Int), beat := 0, round := 0, sides := fun _ => false, next := fun _ => 0, mt := fun _ => 0 }) ⟨f.tT, f.T1, f.id, f.term, f.base, f.bt, f.es, f.base, Nat.zero_le _, ?_, ?_, ?_, ?_, Nat.zero_le _, fun _ => Nat.zero_le _, fun _ => Nat.zero_le _⟩ d
 · show (-1 : Int) ≤ -1 ∧ (-1 : Int) < (r.n : Int); omega
 · have := f.T1
   show (1 : Int) ≤ 1 ∧ (1 : Int) ≤ 2 * (T : Int); omega
 · show (0 : Int) ≤ (r.T : Int) ∧ (r.T : Int) ≤ (T : Int); omega
 · show (0 : Int) ≤ 0 ∧ (0 : Int) ≤ (T : Int); omega
end
structure Full (w : W) (B : Nat) : Prop where
 small : Small w B
 fm : ∀ i, i < w.n → Fm w.T B (w.r i)
 mf : ∀ m, m ∈ w.mails → Mf B m.x
structure Nf (w : W) (B : Nat) (i : Nat) : Prop where
 n : (w.r i).n = w.n
 id : (w.r i).id = i
 who : -1 ≤ (w.r i).who ∧ (w.r i).who < (w.n : Int)
 bc : (w.r i).base ≤ (w.r i).commit
 cl : (w.r i).commit ≤ (w.r i).last
 last : (w.r i).last ≤ B
 cm : (w.r i).base ≤ w.cm.length
 next : (w.r i).role = 3 → ∀ q, q < w.n → q ≠ i → 1 ≤ (w.r i).next q ∧ (w.r i).next q ≤ (w.r i).last + 1
section
variable {w : W} {B : Nat}
theorem WI.nf {G : Gh} {nd : Nat → Nd} {l : Nat → Log} (I : WI w G nd l) (Z : Sz w G B) {i : Nat} (hi : i < w.n) : Nf w B i := by
 have S := I.st i hi
 have hlen := len_bound I.inv hi Z.log
 rw [S.eq] at hlen
 refine ⟨S.rn, S.id, ⟨S.whoR, ?_⟩, S.bc, by rw [S.last]; exact S.com.1, by rw [S.last]; exact hlen, I.bs i hi, fun hr => by rw [S.last]; exact S.next hr⟩
 have hw := I.inv.who i hi
 rw [S.eq] at hw
 have hw' : whoN (w.r i).who = G.V (w.r i).term i := hw
 by_cases e : (w.r i).who = -1
 · rw [e]; omega
 · unfold whoN at hw'
   rw [if_neg e] at hw'
   have := (I.inv.votes _ i _ hi hw'.symm).1
   have hR := S.whoR
   omega
theorem Full.nf (F : Full w B) {i : Nat} (hi : i < w.n) : Nf w B i := by
 obtain ⟨_, _, G, nd, l, I, Z⟩ := F.small
 exact I.nf Z hi
theorem Full.mono (F : Full w B) {C : Nat} (h : B ≤ C) : Full w C := ⟨F.small.mono h, fun i hi => (F.fm i hi).mono h, fun m hm => (F.mf m hm).mono h⟩
theorem Full.mail (F : Full w B) {m : Mail} (hm : m ∈ w.mails) : m.from_ < w.n ∧ m.to < w.n ∧ Mf B m.x ∧ (m.x.kind = 5 → m.x.index + m.x.list.length ≤ B) := by
 obtain ⟨_, _, G, nd, l, I, Z⟩ := F.small
 obtain ⟨a, b, c, _⟩ := I.ml m hm
 exact ⟨a, b, F.mf m hm, fun h => Nat.le_trans (c.add h).2.1 (Z.log _)⟩
theorem took_fm {i : Nat} {res : Rf × Ou} (hfm : ∀ j, j < w.n → Fm w.T B (w.r j)) (hmf : ∀ m, m ∈ w.mails → Mf B m.x) (h : Fo w.T (B + 1) res) : (∀ j, j < w.n → Fm w.T (B + 1) ((w.took i res).r j)) ∧ ∀ m, m ∈ (w.took i res).mails → Mf (B + 1) m.x := by
 refine ⟨fun j hj => ?_, fun m hm => ?_⟩
 · by_cases e : j = i
   · subst e; rw [W.took_same]; exact h.1
   · rw [W.took_ne _ _ e]; exact (hfm j hj).mono (Nat.le_succ B)
 · rw [W.took_mails] at hm
   rcases mem_room hm with hm | hm
   · rcases mem_room hm with hm | hm
     · exact (hmf m hm).mono (Nat.le_succ B)
     · obtain ⟨p, hp, rfl⟩ := List.mem_map.1 hm
       exact h.2 p hp
   · obtain ⟨q, _, rfl⟩ := List.mem_map.1 hm
     exact h.1.shot
theorem Full.tickOne (F : Full w B) (hB : B + 1 < 18446744073709551615) (hS : Seen w) {i : Nat} (hi : i < w.n) (d : Nat) : Full (w.tickOne i d) (B + 1) ∧ Seen (w.tickOne i d) := by
 unfold W.tickOne
 by_cases hu : w.up i = true
 · rw [if_pos hu]
   obtain ⟨n1, n7, G, nd, l, I, Z⟩ := F.small
   obtain ⟨G', nd', l', I', Z', S'⟩ := I.tick Z hB hS hi hu d
   obtain ⟨a, b⟩ := took_fm (i := i) F.fm F.mf ((F.fm i hi).tick (F.nf hi).last d)
   exact ⟨⟨⟨n1, n7, G', nd', l', I', Z'⟩, a, b⟩, S'⟩
 · rw [if_neg hu]
   exact ⟨F.mono (Nat.le_succ B), hS⟩
theorem Full.heard (F : Full w B) {m : Mail} (hm : m ∈ w.mails) (d : Nat) : Fo w.T (B + 1) (w.heard m d) := by
 obtain ⟨hf, ht, hx, hth⟩ := F.mail hm
 unfold W.heard
 split
 · exact ⟨(F.fm _ ht).mono (Nat.le_succ B), of_none⟩
 · exact (F.fm _ ht).hear (F.nf ht).last hx hth (by rw [(F.nf ht).n]; exact hf) d
theorem Full.arrive (F : Full w B) {m : Mail} (hm : m ∈ w.mails) {ms : List Mail} (hms : ∀ x, x ∈ ms → x ∈ w.mails) (d : Nat) (hs : Small ((w.with_ ms).arrive m d) (B + 1)) : Full ((w.with_ ms).arrive m d) (B + 1) := by
 have h := took_fm (w := w.with_ ms) (i := m.to) F.fm (fun x hx => F.mf x (hms x hx)) (F.heard hm d)
 refine ⟨hs, ?_, ?_⟩
 · unfold W.arrive
   split
   · exact h.1
   · exact fun i hi => (F.fm i hi).mono (Nat.le_succ B)
 · unfold W.arrive
   split
   · exact h.2
   · exact fun x hx => (F.mf x (hms x hx)).mono (Nat.le_succ B)
theorem Full.first (F : Full w B) {rem : Nat} {m : Mail} {ms : List Mail} (hF : FI w (rem + 1)) (h200 : rem ≤ 200) (hB : B + 1 < 18446744073709551615) (hm : w.mails = m :: ms) (d : Nat) : FI ((w.with_ ms).arrive m d) rem ∧ Full ((w.with_ ms).arrive m d) (B + 1) := by
 obtain ⟨a, b⟩ := first_ok hF h200 hB hm F.small d
 exact ⟨a, F.arrive (by rw [hm]; exact List.mem_cons_self ..) (fun x hx => by rw [hm]; exact List.mem_cons_of_mem _ hx) d b⟩
theorem Full.ticks (dr : Nat → Nat) : ∀ (k h : Nat) (w : W) (B : Nat), h + k ≤ w.n → B + k < 18446744073709551615 → Seen w → Full w B → Full (w.ticks dr k h) (B + k) ∧ Seen (w.ticks dr k h) := by
 intro k
 induction k with
 | zero => intro h w B _ _ hS F; exact ⟨F, hS⟩
 | succ k ih =>
  intro h w B hk hB hS F
  obtain ⟨a, b⟩ := F.tickOne (by omega) hS (i := h) (by omega) (dr h)
  have hn : (w.tickOne h (dr h)).n = w.n := by unfold W.tickOne; split <;> rfl
  have := ih (h + 1) _ (B + 1) (by rw [hn]; omega) (by omega) b a
  rw [show B + (k + 1) = (B + 1) + k by omega]
  exact this
theorem Full.flow (dr : Nat → Nat) : ∀ (rem h : Nat) (w : W) (B : Nat), rem ≤ 200 → B + rem < 18446744073709551615 → FI w rem → Full w B → Full (w.flow dr rem h) (B + rem) := by
 intro rem
 induction rem with
 | zero => intro h w B _ _ _ F; exact F
 | succ rem ih =>
  intro h w B h200 hB hF F
  show Full (match w.mails with | [] => w | m :: ms => W.flow dr rem (h + 1) ((w.with_ ms).arrive m (dr h))) (B + (rem + 1))
  cases hm : w.mails with
  | nil => exact F.mono (by omega)
  | cons m ms =>
   obtain ⟨a, b⟩ := F.first hF (by omega) (by omega) hm (dr h)
   rw [show B + (rem + 1) = (B + 1) + rem by omega]
   exact ih (h + 1) _ (B + 1) (by omega) (by omega) a b
structure Kw (w : W) (C : Nat) (w' : W) : Prop where
 fm : ∀ i, i < w.n → Fm w.T C (w'.r i)
 mf : ∀ m, m ∈ w'.mails → Mf C m.x
 n : w'.n = w.n
 T : w'.T = w.T
structure Bf (w : W) (B : Nat) : Prop where
 full : Full w B
 saw : ∀ j, j < w.n → Saw w j
theorem Bf.bd (h : Bf w B) : Bd w B := ⟨h.full.small, h.saw⟩
theorem Bf.event (h : Bf w B) (hB : B + 207 < 18446744073709551615) (e : Ev) (hi : e.i < w.n) (hk : w.mails ≠ [] → e.k < w.mails.length) : Full (w.event e) (B + 207) := by
 have hs := h.bd.event hB e hi hk
 have F := h.full
 have n7 : w.n ≤ 7 := F.small.2.1
 have up : (∀ i, i < w.n → Fm w.T (B + 207) (w.r i)) ∧ ∀ m, m ∈ w.mails → Mf (B + 207) m.x := ⟨fun i hi => (F.fm i hi).mono (by omega), fun m hm => (F.mf m hm).mono (by omega)⟩
 have hat : w.mails ≠ [] → w.mailAt e.k ∈ w.mails := fun hne => by
  unfold W.mailAt
  have := hk hne
  rw [List.getD_eq_getElem?_getD, List.getElem?_eq_getElem this]
  exact List.getElem_mem this
 have hsub : ∀ m, m ∈ w.mails.eraseIdx e.k → m ∈ w.mails := fun m hm => List.mem_of_mem_eraseIdx hm
 have set_ : ∀ {r' : Rf}, Fm w.T (B + 207) r' → ∀ j, j < w.n → Fm w.T (B + 207) ((w.set e.i r').r j) := fun {r'} f j hj => by
  show Fm w.T (B + 207) (if j = e.i then r' else w.r j)
  split
  · exact f
  · exact up.1 j hj
 have key : Kw w (B + 207) (w.event e) := by
  unfold W.event
  split
  · obtain ⟨a, _⟩ := F.tickOne (by omega) h.bd.seen hi e.draw
    have hn : (w.tickOne e.i e.draw).n = w.n ∧ (w.tickOne e.i e.draw).T = w.T := by unfold W.tickOne; split <;> exact ⟨rfl, rfl⟩
    have a' := a.mono (C := B + 207) (by omega)
    exact ⟨fun i hi => by have := a'.fm i (by rw [hn.1]; exact hi); rw [hn.2] at this; exact this, a'.mf, hn.1, hn.2⟩
  split
  · split
    · exact ⟨up.1, up.2, rfl, rfl⟩
    · rename_i hne
      have t := took_fm (w := w.with_ (w.mails.eraseIdx e.k)) (i := (w.mailAt e.k).to) F.fm (fun x hx => F.mf x (hsub x hx)) (F.heard (hat hne) e.draw)
      unfold W.arrive
      split
      · exact ⟨fun i hi => (t.1 i hi).mono (by omega), fun m hm => (t.2 m hm).mono (by omega), rfl, rfl⟩
      · exact ⟨up.1, fun m hm => up.2 m (hsub m hm), rfl, rfl⟩
  split
  · split
    · exact ⟨up.1, up.2, rfl, rfl⟩
    · exact ⟨up.1, fun m hm => up.2 m (hsub m hm), rfl, rfl⟩
  split
  · split
    · rename_i hne
      refine ⟨up.1, fun m hm => ?_, rfl, rfl⟩
      rcases List.mem_append.1 hm with hm | hm
      · exact up.2 m hm
      · rw [List.mem_singleton.1 hm]; exact up.2 _ (hat hne.1)
    · exact ⟨up.1, up.2, rfl, rfl⟩
  split
  · split
    · have t := took_fm (i := e.i) F.fm F.mf ((F.fm _ hi).propose (F.nf hi).last e.data)
      exact ⟨fun i hi => (t.1 i hi).mono (by omega), fun m hm => (t.2 m hm).mono (by omega), rfl, rfl⟩
    · exact ⟨up.1, up.2, rfl, rfl⟩
  iterate 2
   split
   · exact ⟨set_ (((F.fm _ hi).crash e.draw).mono (by omega)), up.2, rfl, rfl⟩
  split
  · exact ⟨set_ ((F.fm _ hi).pack.mono (by omega)), up.2, rfl, rfl⟩
  split
  · obtain ⟨a, s⟩ := Full.ticks (dr e.draw) w.n 0 w B (by omega) (by omega) h.bd.seen F
    have b := (Full.flow (dr e.draw) 200 0 _ (B + w.n) (Nat.le_refl _) (by omega) (s.fi 200) a).mono (C := B + 207) (by omega)
    have tn : ∀ (k h : Nat) (w : W), (w.ticks (dr e.draw) k h).n = w.n ∧ (w.ticks (dr e.draw) k h).T = w.T := by
     intro k
     induction k with
     | zero => intro h w; exact ⟨rfl, rfl⟩
     | succ k ih =>
      intro h w
      have := ih (h + 1) (w.tickOne h (dr e.draw h))
      have e2 : (w.tickOne h (dr e.draw h)).n = w.n ∧ (w.tickOne h (dr e.draw h)).T = w.T := by unfold W.tickOne; split <;> exact ⟨rfl, rfl⟩
      exact ⟨this.1.trans e2.1, this.2.trans e2.2⟩
    have fn : ∀ (k h : Nat) (w : W), (w.flow (dr e.draw) k h).n = w.n ∧ (w.flow (dr e.draw) k h).T = w.T := by
     intro k
     induction k with
     | zero => intro h w; exact ⟨rfl, rfl⟩
     | succ k ih =>
      intro h w
      show (match w.mails with | [] => w | m :: ms => W.flow (dr e.draw) k (h + 1) ((w.with_ ms).arrive m (dr e.draw h)) : W).n = w.n ∧ (match w.mails with | [] => w | m :: ms => W.flow (dr e.draw) k (h + 1) ((w.with_ ms).arrive m (dr e.draw h)) : W).T = w.T
      cases w.mails with
      | nil => exact ⟨rfl, rfl⟩
      | cons m ms =>
       have := ih (h + 1) ((w.with_ ms).arrive m (dr e.draw h))
       have e2 : ((w.with_ ms).arrive m (dr e.draw h)).n = w.n ∧ ((w.with_ ms).arrive m (dr e.draw h)).T = w.T := by unfold W.arrive; split <;> exact ⟨rfl, rfl⟩
       exact ⟨this.1.trans e2.1, this.2.trans e2.2⟩
    have e1 := tn w.n 0 w
    have e2 := fn 200 0 (w.ticks (dr e.draw) w.n 0)
    exact ⟨fun i hi => by have := b.fm i (by rw [e2.1, e1.1]; exact hi); rw [e2.2, e1.2] at this; exact this, b.mf, e2.1.trans e1.1, e2.2.trans e1.2⟩
  · exact ⟨up.1, up.2, rfl, rfl⟩
 exact ⟨hs, fun i hi => by rw [key.T]; exact key.fm i (by rw [key.n] at hi; exact hi), key.mf⟩
end
section
variable {w : W} {B : Nat}
theorem Full.look1 (F : Full w B) {i : Nat} (hi : i < w.n) : Full (w.look1 i) B := by
 obtain ⟨n1, n7, G, nd, l, I, Z⟩ := F.small
 exact ⟨⟨n1, n7, G, nd, l, I.look1 hi, ⟨Z.log, Z.term⟩⟩, F.fm, F.mf⟩
theorem Full.look (F : Full w B) {i : Nat} (hi : i < w.n) : Look w i := by
 obtain ⟨_, _, G, nd, l, I, _⟩ := F.small
 exact I.look hi
theorem looks_same : ∀ (k h : Nat) (w : W), (w.looks k h).r = w.r ∧ (w.looks k h).mails = w.mails ∧ (w.looks k h).n = w.n ∧ (w.looks k h).T = w.T ∧ (w.looks k h).up = w.up := by
 intro k
 induction k with
 | zero => intro h w; exact ⟨rfl, rfl, rfl, rfl, rfl⟩
 | succ k ih => intro h w; exact ih (h + 1) (w.look1 h)
theorem Full.bf (F : Full w B) : Bf (w.looks w.n 0) B ∧ Safe (w.looks w.n 0) := by
 obtain ⟨a, b, c⟩ := F.small.bd
 obtain ⟨e1, e2, e3, e4, _⟩ := looks_same w.n 0 w
 exact ⟨⟨⟨a.small, fun i hi => by rw [e1, e4]; exact F.fm i (by rw [e3] at hi; exact hi), fun m hm => by rw [e2] at hm; exact F.mf m hm⟩, a.saw⟩, b⟩
end
theorem first_bf (n T : Nat) (h1 : 1 ≤ n) (h7 : n ≤ 7) (hT : 1 ≤ T) : Bf (W.first n T) 0 := by
 have h := first_bd n T h1 h7
 refine ⟨⟨h.small, fun i hi => ?_, fun m hm => (by cases hm)⟩, h.saw⟩
 have hi' : i < n := hi
 refine Fm.draw (r := ({ n := n, id := i, T := T, term := 0, who := -1, base := 0, bt := 0, es := [], commit := 0, role := 0, leader := -1, left := 1, quiet := (T : Int), beat := 0, round := 0, sides := fun _ => false, next := fun _ => 0, mt := fun _ => 0 } : Rf)) ⟨rfl, hT, hi', Nat.zero_le _, Nat.zero_le _, Nat.zero_le _, fun e he => (by cases he), Nat.zero_le _, Nat.zero_le _, ?_, ?_, ?_, ?_, Nat.zero_le _, fun _ => Nat.zero_le _, fun _ => Nat.zero_le _⟩ i
 · show (-1 : Int) ≤ -1 ∧ (-1 : Int) < (n : Int); omega
 · show (1 : Int) ≤ 1 ∧ (1 : Int) ≤ 2 * (T : Int); omega
 · show (0 : Int) ≤ (T : Int) ∧ (T : Int) ≤ (T : Int); omega
 · show (0 : Int) ≤ 0 ∧ (0 : Int) ≤ (T : Int); omega
def W.turn (w : W) (e : Ev) : W := (w.event e).looks (w.event e).n 0
theorem Bf.turn {w : W} {B : Nat} (h : Bf w B) (hB : B + 207 < 18446744073709551615) (e : Ev) (hi : e.i < w.n) (hk : w.mails ≠ [] → e.k < w.mails.length) : Bf (w.turn e) (B + 207) ∧ Safe (w.turn e) :=
 (h.event hB e hi hk).bf
def alone : Nat → Rf
 | 0 => Rf.init 1 0 3 1
 | k + 1 => ((alone k).tick 0).1
theorem alone_known : (alone 10).role = 3 ∧ (alone 10).term = 1 ∧ ((alone 10).propose [97]).1.role = 3 ∧ ((alone 10).propose [97]).1.term = 1 ∧ ((alone 10).propose [97]).1.commit = 2 ∧ ((alone 10).propose [97]).1.last = 2 ∧ ((alone 10).propose [97]).2.add.length = 1 ∧ (alone 10).last = 1 := by decide
structure One (B : Nat) (r : Rf) : Prop where
 fm : Fm 3 B r
 n : r.n = 1
 id : r.id = 0
 last : r.last ≤ B
theorem one0 : One 3 (alone 0) := by
 refine ⟨Fm.draw (r := ({ n := 1, id := 0, T := 3, term := 0, who := -1, base := 0, bt := 0, es := [], commit := 0, role := 0, leader := -1, left := 1, quiet := 3, beat := 0, round := 0, sides := fun _ => false, next := fun _ => 0, mt := fun _ => 0 } : Rf)) ⟨rfl, by decide, by decide, by decide, by decide, by decide, fun e he => (by cases he), by decide, by decide, by decide, by decide, by decide, by decide, by decide, fun _ => Nat.zero_le _, fun _ => Nat.zero_le _⟩ 1, rfl, rfl, by decide⟩
theorem tick_len (r : Rf) (d : Nat) : (r.tick d).1.n = r.n ∧ (r.tick d).1.id = r.id ∧ (r.tick d).1.last ≤ r.last + 1 := by
 unfold Rf.tick
 split
 · dsimp only
   split <;> exact ⟨rfl, rfl, Nat.le_succ _⟩
 · dsimp only
   split
   · exact ⟨rfl, rfl, Nat.le_succ _⟩
   · split
     · exact ⟨rfl, rfl, Nat.le_succ _⟩
     · split
       · split
         · refine ⟨rfl, rfl, ?_⟩
           have := last_add (({ r with quiet := min (r.quiet + 1) (r.T : Int), left := (r.T : Int), role := 2, who := (r.id : Int), leader := -1, term := r.term + 1 } : Rf).alone).lead0 []
           exact Nat.le_of_eq this
         · exact ⟨rfl, rfl, Nat.le_succ _⟩
       · exact ⟨rfl, rfl, Nat.le_succ _⟩
theorem One.tick {B : Nat} {r : Rf} (h : One B r) (d : Nat) : One (B + 1) (r.tick d).1 := by
 obtain ⟨a, b, c⟩ := tick_len r d
 exact ⟨(h.fm.tick h.last d).1, a.trans h.n, b.trans h.id, by have := h.last; omega⟩
theorem alone_one : ∀ k, One (3 + k) (alone k)
 | 0 => one0
 | k + 1 => (alone_one k).tick 0
end Go.Proofs.Yteellfgiejnigaa.RS
