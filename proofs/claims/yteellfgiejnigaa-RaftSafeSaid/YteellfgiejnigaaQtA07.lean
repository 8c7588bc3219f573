/- RaftSafe: S8. -/
import Derived.Test.YteellfgiejnigaaQtA06
namespace Go.Proofs.Yteellfgiejnigaa.RS
set_option linter.unusedVariables false
section
variable {n i : Nat} {G G' : Gh} {nd nd' : Nat → Nd} {r r' : Rf} {l l' : Log} {o : Ou}
theorem St.up (S : St n G nd i r l) (t d : Nat) : ∃ nd', St n G nd' i (r.up t d) l ∧ Go n i G nd G nd' ∧ t ≤ (r.up t d).term := by
 unfold Rf.up
 by_cases h : r.term < t
 · rw [if_pos h]
   dsimp only
   split
   · obtain ⟨S1, k1⟩ := S.calm (r' := { r.draw d with term := t, who := -1, role := 0, leader := -1 }) (Nat.le_of_lt h) (.inr ⟨h, rfl⟩) ⟨by show ¬ (0 : Nat) = 2; decide, by show ¬ (0 : Nat) = 3; decide⟩ rfl rfl rfl rfl rfl ⟨S.bc, Nat.le_refl _⟩
     exact ⟨_, S1, k1, Nat.le_refl _⟩
   · obtain ⟨S1, k1⟩ := S.calm (r' := { r with term := t, who := -1, role := 0, leader := -1 }) (Nat.le_of_lt h) (.inr ⟨h, rfl⟩) ⟨by show ¬ (0 : Nat) = 2; decide, by show ¬ (0 : Nat) = 3; decide⟩ rfl rfl rfl rfl rfl ⟨S.bc, Nat.le_refl _⟩
     exact ⟨_, S1, k1, Nat.le_refl _⟩
 · rw [if_neg h]
   exact ⟨nd, S, Go.refl .., by omega⟩
theorem up_role (r : Rf) (t d : Nat) (h : (r.up t d).role = 3) : r.role = 3 ∧ r.term = (r.up t d).term := by
 unfold Rf.up at h ⊢
 by_cases e : r.term < t
 · rw [if_pos e] at h
   exact absurd h (by show ¬ (0 : Nat) = 3; decide)
 · rw [if_neg e] at h ⊢
   exact ⟨h, rfl⟩
theorem one_put (S : St n G nd i r l) (r1 : Rf) (t : Nat) (x : Nt) : ocnt (r1.put Ou.none t x) ≤ 2 * n := by
 rw [cnt_put]
 have := S.two
 have e : ocnt Ou.none = 0 := rfl
 omega
theorem one_update (S : St n G nd i r l) (r1 : Rf) (t : Nat) : ocnt (r1.update Ou.none t) ≤ 2 * n := by
 rw [cnt_update]
 have := S.two
 have e : ocnt Ou.none = 0 := rfl
 omega
theorem St.follow (S : St n G nd i r l) (d : Nat) : St n G (upd nd i (ndOf (r.follow d) l)) i (r.follow d) l ∧ Go n i G nd G (upd nd i (ndOf (r.follow d) l)) :=
 S.calm (Nat.le_refl _) (.inl ⟨rfl, rfl⟩) ⟨by show ¬ (0 : Nat) = 2; decide, by show ¬ (0 : Nat) = 3; decide⟩ rfl rfl rfl rfl rfl ⟨S.bc, Nat.le_refl _⟩
theorem better_not {t i t' i' : Nat} (h : Rf.better t i t' i' = false) : t < t' ∨ (t = t' ∧ i ≤ i') := by
 unfold Rf.better at h
 simp only [Bool.or_eq_false_iff, Bool.and_eq_false_iff, decide_eq_false_iff_not] at h
 omega
theorem St.rank (S : St n G nd i r l) {f : Nat} (hf : f < n) (hfi : f ≠ i) (x : Nt) (old : Bool) (d : Nat) {c : Nat → Prop} {e : Prop} : Fine n i G nd r c e (r.rank f x old d) := by
 unfold Rf.rank
 dsimp only
 have pl : ∀ {G : Gh} {nd : Nat → Nd} {r1 : Rf} {y : Bool}, St n G nd i r1 l → OutOk n G nd i r1 (r1.put Ou.none f { Rf.nt 2 with round := x.round, yes := y }) := fun S1 =>
  (OutOk.none_ ..).put hf (S1.plain ⟨by show ¬ (2 : Nat) = 3; decide, by show ¬ (2 : Nat) = 5; decide, by show ¬ (2 : Nat) = 7; decide⟩ (fun h => by rcases h with h | h <;> exact absurd h (by show ¬ (2 : Nat) = _; decide)))
 cases hy : r.rankYes f x old with
 | true =>
  rw [if_pos rfl]
  obtain ⟨S1, k1⟩ := S.follow d
  refine ⟨G, _, l, S1, k1, ?_⟩
  dsimp only
  have e : (!old && decide ((r.follow d).role = 3)) = false := by
   have : (r.follow d).role = 0 := rfl
   rw [this]; cases old <;> rfl
  rw [e]
  exact ⟨pl S1, Ext.plain rfl rfl (fun h => absurd h (by show ¬ (0 : Nat) = 3; decide)) (one_put S ..)⟩
 | false =>
  rw [if_neg (by decide)]
  refine ⟨G, nd, l, S, Go.refl .., ?_⟩
  cases e : (!old && decide (r.role = 3)) with
  | false => exact ⟨pl S, Ext.plain rfl rfl (fun h => ⟨h, rfl⟩) (one_put S ..)⟩
  | true =>
   rw [if_pos rfl]
   simp only [Bool.and_eq_true, decide_eq_true_eq] at e
   refine ⟨S.update (pl S) e.2 hf hfi, Ext.plain rfl rfl (fun h => ⟨h, rfl⟩) ?_⟩
   show ocnt (r.update (r.put Ou.none f _) f) ≤ 2 * n
   rw [cnt_update, cnt_put]
   have := S.two
   have e : ocnt Ou.none = 0 := rfl
   omega
theorem St.vote (S : St n G nd i r l) {f : Nat} (hf : f < n) (hfi : f ≠ i) {x : Nt} (hm : MsgOk n G nd f i x) (h3 : x.kind = 3) (old : Bool) (ho : old = decide (x.term < r.term)) (hx : x.term ≤ r.term) (d : Nat) {c : Nat → Prop} {e : Prop} : Fine n i G nd r c e (r.vote f x old d) := by
 have I := S.inv
 unfold Rf.vote
 dsimp only
 cases hy : r.voteYes f x old with
 | false =>
  rw [if_neg (by decide)]
  exact ⟨G, nd, l, S, Go.refl .., (OutOk.none_ ..).put hf (S.plain ⟨by show ¬ (4 : Nat) = 3; decide, by show ¬ (4 : Nat) = 5; decide, by show ¬ (4 : Nat) = 7; decide⟩ (fun _ => rfl)), Ext.plain rfl rfl (fun h => ⟨h, rfl⟩) (one_put S ..)⟩
 | true =>
  rw [if_pos rfl]
  unfold Rf.voteYes at hy
  simp only [Bool.and_eq_true, Bool.or_eq_true, decide_eq_true_eq, Bool.not_eq_true'] at hy
  obtain ⟨y1, y2, y3⟩ := hy
  have ht : x.term = r.term := by
   rw [ho] at y1
   have := of_decide_eq_false y1
   omega
  obtain ⟨v1, v2⟩ := hm.vote h3
  have hle := hm.le
  rw [ht] at v1 v2 hle
  have hw := I.who i S.lt
  rw [S.eq] at hw
  have hw' : whoN r.who = G.V r.term i := hw
  have fin : ∀ {G' : Gh} {nd' : Nat → Nd}, St n G' nd' i (({ r with who := (f : Int) } : Rf).follow d) l → Go n i G nd G' nd' → G'.V r.term i = some f → G'.K = G.K → G'.LL = G.LL → Fine n i G nd r c e (({ r with who := (f : Int) } : Rf).follow d, (({ r with who := (f : Int) } : Rf).follow d).put Ou.none f { Rf.nt 4 with yes := true }) := by
   intro G' nd' S1 k1 hV hK hL
   refine ⟨G', nd', l, S1, k1, (OutOk.none_ ..).put hf ⟨S.lt, by rw [S1.eq]; exact Nat.le_refl _, fun h => absurd h (by show ¬ (4 : Nat) = 3; decide), fun _ _ => hV, fun h => absurd h (by show ¬ (4 : Nat) = 5; decide), fun h _ => absurd h (by show ¬ (4 : Nat) = 6; decide), fun h => absurd h (by show ¬ (4 : Nat) = 7; decide)⟩, Ext.plain hK hL (fun h => absurd h (by show ¬ (0 : Nat) = 3; decide)) (one_put S ..)⟩
  by_cases hwf : r.who = (f : Int)
  · have hV : G.V r.term i = some f := by
     rw [← hw', hwf]
     unfold whoN
     rw [if_neg (by omega)]
     simp
    obtain ⟨S1, k1⟩ := S.calm (r' := (({ r with who := (f : Int) } : Rf).follow d)) (Nat.le_refl _) (.inl ⟨rfl, hwf.symm⟩) ⟨by show ¬ (0 : Nat) = 2; decide, by show ¬ (0 : Nat) = 3; decide⟩ rfl rfl rfl rfl rfl ⟨S.bc, Nat.le_refl _⟩
    exact fin S1 k1 hV rfl rfl
  · have hw1 : r.who = -1 := by
     rcases y2 with h | h
     · exact h
     · exact absurd h hwf
    have hV : G.V r.term i = none := by rw [← hw', hw1]; rfl
    have hv := I.vote (q := i) (c := f) (x := ndOf (({ r with who := (f : Int) } : Rf).follow d) l) S.lt hf (by rw [S.eq]; exact Nat.le_refl _) (by rw [S.eq]; rfl) hV (by show whoN (f : Int) = some f; unfold whoN; rw [if_neg (by omega)]; simp) (by rw [S.eq]; rfl)
     (by show ¬ (0 : Nat) = 3; decide) (fun h => absurd h (by show ¬ (0 : Nat) = 2; decide)) (fun _ => ⟨hle, rfl, fun e r2 => ?_⟩) (fun h => absurd h hfi)
    · have gv := voteG_le I f (nd i).log S.lt hV
      obtain ⟨S1, k1⟩ := S.step (r' := (({ r with who := (f : Int) } : Rf).follow d)) (l' := l) hv gv (Nat.le_refl _) (fun _ h => absurd h (by show ¬ (0 : Nat) = 2; decide)) rfl rfl (by show (-1 : Int) ≤ (f : Int); omega) S.trk S.bc (fun h => absurd h (by show ¬ (0 : Nat) = 3; decide)) (fun T q hq ht => voteG_Vne _ _ _ (by
       rintro ⟨a, rfl⟩
       rw [S.eq] at ht
       have ht' : T < r.term := ht
       have a' : T = r.term := a
       omega))
      exact fin S1 k1 (voteG_V _ _ _ _ _) rfl rfl
    · obtain ⟨w1, w2⟩ := v2 e r2
      rw [S.eq]
      show Lle l (nd f).log
      rw [S.tipt, S.last] at y3
      unfold Lle
      rw [w1, w2]
      exact better_not y3
theorem ack_has (G : Gh) (T i m : Nat) : m ≤ (ackG G T i m).A T i := by rw [ackG_same]; omega
theorem St.answerOk {G' : Gh} {nd' : Nat → Nd} (S : St n G' nd' i r l) {f k : Nat} (ho : OutOk n G' nd' i r o) (hf : f < n) (hk : G'.Ld r.term ≠ none ∧ k ≤ G'.A r.term i) : OutOk n G' nd' i r (r.answer o f k true) :=
 ho.put hf ⟨S.lt, by rw [S.eq]; exact Nat.le_refl _, fun h => absurd h (by show ¬ (6 : Nat) = 3; decide), fun h _ => absurd h (by show ¬ (6 : Nat) = 4; decide), fun h => absurd h (by show ¬ (6 : Nat) = 5; decide), fun _ _ => hk, fun h => absurd h (by show ¬ (6 : Nat) = 7; decide)⟩
theorem meetR_err (B T : Nat) (es : Log) (prev term : Nat) (ss : Log) : (meetR B T es prev term ss).2.2 = 0 ∨ (meetR B T es prev term ss).2.2 = 240 ∨ (meetR B T es prev term ss).2.2 = 241 := by
 unfold meetR
 split
 · exact .inr (.inl rfl)
 · split
   · exact .inr (.inr rfl)
   · split <;> exact .inl rfl
theorem St.led (S : St n G nd i r l) {f : Nat} (hf : f < n) (hfi : f ≠ i) {x : Nt} (hm : MsgOk n G nd f i x) (hk : x.kind = 5 ∨ x.kind = 7) (hx : x.term = r.term) (h3 : r.role ≠ 3) (h64 : ∀ T, (G.LL T).length < 18446744073709551615) (d : Nat) {c : Nat → Prop} {e : Prop} : Fine n i G nd r c e (r.led f x d) := by
 have I := S.inv
 have hcom := S.com
 have hLd : G.Ld r.term ≠ none := by
  rcases hk with h | h
  · rw [← hx, (hm.add h).1]; simp
  · rw [← hx, (hm.shot h).1]; simp
 have hT : (nd i).term = r.term := by rw [S.eq]; rfl
 have htrk : Trk r.base r.bt r.es (nd i).log := by rw [S.eq]; exact S.trk
 obtain ⟨r1, hr1⟩ : ∃ r1, ({ r.follow d with leader := (f : Int), quiet := 0 } : Rf) = r1 := ⟨_, rfl⟩
 have calm1 : ∃ nd', St n G nd' i r1 l ∧ Go n i G nd G nd' := by
  subst hr1
  obtain ⟨S1, k1⟩ := S.calm (r' := ({ r.follow d with leader := (f : Int), quiet := 0 } : Rf)) (Nat.le_refl _) (.inl ⟨rfl, rfl⟩) ⟨by show ¬ (0 : Nat) = 2; decide, by show ¬ (0 : Nat) = 3; decide⟩ rfl rfl rfl rfl rfl ⟨S.bc, Nat.le_refl _⟩
  exact ⟨_, S1, k1⟩
 -- an answer of what is committed
 have ext : ∀ {G' : Gh} {r' : Rf} {o' : Ou}, G'.K = G.K → G'.LL = G.LL → r'.role = r1.role → ocnt o' ≤ 2 * n → Ext n i G G' r c e (r', o') := by
  intro G' r' o' a b h d
  refine Ext.plain a b (fun e => absurd e ?_) d
  rw [h]; subst hr1
  show ¬ (0 : Nat) = 3
  decide
 have has : ∀ k, k ≤ r.commit → Fine n i G nd r c e (r1, r1.answer Ou.none f k true) := by
  intro k hkc
  subst hr1
  have hI := I.hear_has (i := i) (T := r.term) (k := k) (x := ndOf ({ r.follow d with leader := (f : Int), quiet := 0 } : Rf) l) S.lt hT hLd (by rw [S.eq]; exact hkc) rfl (by rw [S.eq]; rfl) (by show ¬ (0 : Nat) = 2; decide) (by show ¬ (0 : Nat) = 3; decide) (by rw [S.eq]; rfl) (by rw [S.eq]; rfl)
  obtain ⟨S1, k1⟩ := S.step (r' := ({ r.follow d with leader := (f : Int), quiet := 0 } : Rf)) (l' := l) hI (ackG_le ..) (Nat.le_refl _) (fun _ h => absurd h (by show ¬ (0 : Nat) = 2; decide)) rfl rfl S.whoR S.trk S.bc (fun h => absurd h (by show ¬ (0 : Nat) = 3; decide))
  exact ⟨_, _, l, S1, k1, S1.answerOk (OutOk.none_ ..) hf ⟨hLd, ack_has ..⟩, ext rfl rfl rfl (one_put S ..)⟩
 have e1 : r1.commit = r.commit ∧ r1.base = r.base ∧ r1.bt = r.bt ∧ r1.es = r.es := by subst hr1; exact ⟨rfl, rfl, rfl, rfl⟩
 unfold Rf.led
 rw [hr1]
 unfold Rf.led1
 dsimp only
 by_cases h7 : x.kind = 7
 · rw [if_pos h7]
   by_cases hc : x.index ≤ r1.commit
   · rw [if_pos hc, e1.1]
     exact has r.commit (Nat.le_refl _)
   · rw [if_neg hc]
     rw [e1.1] at hc
     have hin : (nd i).commit < x.index := by rw [S.eq]; show r.commit < _; omega
     by_cases ht : (termAt r1.base r1.bt r1.es x.index).2 = true ∧ (termAt r1.base r1.bt r1.es x.index).1 = x.at_
     · rw [if_pos ht]
       rw [e1.2.1, e1.2.2.1, e1.2.2.2] at ht
       obtain ⟨hI, hle, hat⟩ := I.hear_shot (i := i) (f := f) (T := r.term) (m := x) (x := ndOf ({ r1 with base := x.index, bt := x.at_, es := r1.es.drop (x.index - r1.base), commit := x.index } : Rf) l) S.lt hT hx hm h7 htrk (by rw [S.eq]; exact S.bc) hin (by subst hr1; rfl) (by rw [S.eq]; subst hr1; rfl) (by subst hr1; show ¬ (0 : Nat) = 2; decide) (by subst hr1; show ¬ (0 : Nat) = 3; decide) rfl (.inl ⟨ht.1, ht.2, by rw [S.eq]; rfl⟩)
       have hb := S.bc
       obtain ⟨S1, k1⟩ := S.step (r' := ({ r1 with base := x.index, bt := x.at_, es := r1.es.drop (x.index - r1.base), commit := x.index } : Rf)) (l' := l) hI (ackG_le ..) (by subst hr1; exact Nat.le_refl _) (fun _ h => absurd h (by subst hr1; show ¬ (0 : Nat) = 2; decide)) (by subst hr1; rfl) (by subst hr1; rfl) (by subst hr1; exact S.whoR)
        ⟨hle, by show r1.es.drop (x.index - r1.base) = _; rw [e1.2.1, e1.2.2.2, S.trk.es, List.drop_drop]; congr 1; show r.base + (x.index - r.base) = x.index; omega, hat⟩ (Nat.le_refl _) (fun h => absurd h (by subst hr1; show ¬ (0 : Nat) = 3; decide))
       refine ⟨_, _, l, S1, k1, S1.answerOk (OutOk.none_ ..) hf ?_, ext rfl rfl rfl (one_put S ..)⟩
       have : r1.term = r.term := by subst hr1; rfl
       show G.Ld r1.term ≠ none ∧ x.index ≤ (ackG G r.term i x.index).A r1.term i
       rw [this]; exact ⟨hLd, ack_has ..⟩
     · rw [if_neg ht]
       rw [e1.2.1, e1.2.2.1, e1.2.2.2] at ht
       obtain ⟨hI, hle, hat⟩ := I.hear_shot (i := i) (f := f) (T := r.term) (m := x) (x := ndOf ({ r1 with base := x.index, bt := x.at_, es := [], commit := x.index } : Rf) ((G.LL r.term).take x.index)) S.lt hT hx hm h7 htrk (by rw [S.eq]; exact S.bc) hin (by subst hr1; rfl) (by rw [S.eq]; subst hr1; rfl) (by subst hr1; show ¬ (0 : Nat) = 2; decide) (by subst hr1; show ¬ (0 : Nat) = 3; decide) rfl (.inr ⟨ht, rfl⟩)
       obtain ⟨S1, k1⟩ := S.step (r' := ({ r1 with base := x.index, bt := x.at_, es := [], commit := x.index } : Rf)) (l' := (G.LL r.term).take x.index) hI (ackG_le ..) (by subst hr1; exact Nat.le_refl _) (fun _ h => absurd h (by subst hr1; show ¬ (0 : Nat) = 2; decide)) (by subst hr1; rfl) (by subst hr1; rfl) (by subst hr1; exact S.whoR)
        ⟨hle, by show ([] : Log) = _; exact (List.drop_eq_nil_of_le (show ((G.LL r.term).take x.index).length ≤ x.index by rw [List.length_take]; omega)).symm, hat⟩ (Nat.le_refl _) (fun h => absurd h (by subst hr1; show ¬ (0 : Nat) = 3; decide))
       refine ⟨_, _, _, S1, k1, S1.answerOk (OutOk.none_ ..) hf ?_, ext rfl rfl rfl (one_put S ..)⟩
       have : r1.term = r.term := by subst hr1; rfl
       show G.Ld r1.term ≠ none ∧ x.index ≤ (ackG G r.term i x.index).A r1.term i
       rw [this]; exact ⟨hLd, ack_has ..⟩
 · rw [if_neg h7]
   have h5 : x.kind = 5 := by rcases hk with h | h; exact h; exact absurd h h7
   rw [e1.2.1, e1.2.2.1, e1.2.2.2, e1.1]
   obtain ⟨m, hmm⟩ : ∃ m, meetR r.base r.bt r.es x.index x.at_ x.list = m := ⟨_, rfl⟩
   have herr := meetR_err r.base r.bt r.es x.index x.at_ x.list
   rw [hmm] at herr ⊢
   by_cases h241 : m.2.2 = 241
   · rw [if_pos h241]
     obtain ⟨nd1, S1, k1⟩ := calm1
     exact ⟨G, nd1, l, S1, k1, (OutOk.none_ ..).put hf (S1.plain ⟨by show ¬ (6 : Nat) = 3; decide, by show ¬ (6 : Nat) = 5; decide, by show ¬ (6 : Nat) = 7; decide⟩ (fun _ => rfl)), ext rfl rfl rfl (one_put S ..)⟩
   · rw [if_neg h241]
     by_cases h240 : m.2.2 = 240
     · rw [if_pos h240]
       exact has r.base S.bc
     · rw [if_neg h240]
       by_cases hno : m.2.1 ≠ [] ∧ m.1 < r.commit
       · rw [if_pos hno]
         obtain ⟨nd1, S1, k1⟩ := calm1
         exact ⟨G, nd1, l, S1, k1, OutOk.none_ .., ext rfl rfl rfl (Nat.zero_le _)⟩
       · rw [if_neg hno]
         have h0 : m.2.2 = 0 := by omega
         obtain ⟨keep, add, err⟩ := m
         dsimp only at h0 hno ⊢
         subst h0
         obtain ⟨hI, hkk⟩ := I.hear_add (i := i) (f := f) (T := r.term) (m := x) (x := ndOf ({ r1 with es := if add = [] then r.es else r.es.take (keep - r.base) ++ add, commit := max r.commit (min x.commit (x.index + x.list.length)) } : Rf) (if add = [] then l else l.take keep ++ add)) S.lt hT hx hm h5 htrk (by rw [S.eq]; exact S.bc) (h64 _) hmm
          (by
            by_cases e : add = []
            · exact .inl e
            · right
              rw [S.eq]
              show r.commit ≤ keep
              apply Classical.byContradiction
              intro hn
              exact hno ⟨e, by omega⟩) (by subst hr1; rfl) (by rw [S.eq]; subst hr1; rfl) (by subst hr1; show ¬ (0 : Nat) = 2; decide) (by subst hr1; show ¬ (0 : Nat) = 3; decide) (by rw [S.eq]; rfl) (by rw [S.eq]; rfl)
         have hb := S.bc
         have htk : Trk r.base r.bt (if add = [] then r.es else r.es.take (keep - r.base) ++ add) (if add = [] then l else l.take keep ++ add) := by
          by_cases e : add = []
          · rw [if_pos e, if_pos e]; exact S.trk
          · rw [if_neg e, if_neg e]
            obtain ⟨q1, q2⟩ := hkk e
            rw [S.eq] at q2
            have q2' : keep ≤ l.length := q2
            refine ⟨by rw [List.length_append, List.length_take]; omega, ?_, ?_⟩
            · rw [List.drop_append_of_le_length (by rw [List.length_take]; omega), S.trk.es, List.drop_take]
            · rw [S.trk.term]
              have a := tAt_prefix (List.prefix_append (l.take keep) add) (i := r.base) (by rw [List.length_take]; omega)
              rw [tAt_take q1] at a
              exact a
         obtain ⟨S1, k1⟩ := S.step (r' := ({ r1 with es := if add = [] then r.es else r.es.take (keep - r.base) ++ add, commit := max r.commit (min x.commit (x.index + x.list.length)) } : Rf)) (l' := if add = [] then l else l.take keep ++ add) hI (ackG_le ..) (by subst hr1; exact Nat.le_refl _) (fun _ h => absurd h (by subst hr1; show ¬ (0 : Nat) = 2; decide)) (by subst hr1; rfl) (by subst hr1; rfl) (by subst hr1; exact S.whoR) (by subst hr1; exact htk)
          (by show r1.base ≤ max r.commit _; rw [e1.2.1]; omega) (fun h => absurd h (by subst hr1; show ¬ (0 : Nat) = 3; decide))
         subst hr1
         refine ⟨_, _, _, S1, k1, S1.answerOk (o := { Ou.none with add := add }) ⟨fun p h => (by cases h), fun k h => (by cases h), fun h => absurd rfl h⟩ hf ?_, ext rfl rfl rfl ?_⟩
         · exact ⟨hLd, ack_has ..⟩
         · have := S.two
           show 0 + 1 + 0 ≤ 2 * n
           omega
theorem St.added (S : St n G nd i r l) {f : Nat} (hf : f < n) (hfi : f ≠ i) {x : Nt} (hm : MsgOk n G nd f i x) (hk : x.kind = 6) (hx : x.term = r.term) (h3 : r.role = 3) {e : Prop} : Fine n i G nd r (fun T => x.yes = true ∧ T = r.term) e (r.added f x) := by
 have I := S.inv
 have hlead := I.lead i S.lt (by rw [S.eq]; exact h3)
 have hw := I.who i S.lt
 rw [S.eq] at hlead hw
 obtain ⟨l1, l2, l3, l4⟩ := hlead
 have l2' : l = G.LL r.term := l2
 have l4' : ∀ q, q < n → q ≠ i → r.mt q ≤ G.A r.term q := l4
 have hA := (I.ackb r.term f hf).1
 rw [← l2'] at hA
 have hmf := l4' f hf hfi
 obtain ⟨x1, x2⟩ := S.next h3 f hf hfi
 unfold Rf.added
 by_cases hy : x.yes = false
 · rw [if_pos hy]
   dsimp only
   have S1 : St n G nd i { r with next := fun j => if j = f then max (min (r.next f - 1) (x.index + 1)) (r.mt f + 1) else r.next j } l := by
    refine S.irr rfl rfl rfl rfl rfl rfl rfl (fun _ q hq hne => ?_)
    show 1 ≤ (if q = f then max (min (r.next f - 1) (x.index + 1)) (r.mt f + 1) else r.next q) ∧ (if q = f then max (min (r.next f - 1) (x.index + 1)) (r.mt f + 1) else r.next q) ≤ l.length + 1
    by_cases e : q = f
    · rw [if_pos e]; omega
    · rw [if_neg e]; exact S.next h3 q hq hne
   exact ⟨G, nd, l, S1, Go.refl .., S1.update (OutOk.none_ ..) h3 hf hfi, Ext.plain rfl rfl (fun _ => ⟨h3, rfl⟩) (one_update S ..)⟩
 · rw [if_neg hy]
   dsimp only
   have hy' : x.yes = true := by simpa using hy
   have hack := (hm.added hk hy').2
   rw [hx] at hack
   obtain ⟨m, hmm⟩ : ∃ m, max (r.mt f) (min x.index r.last) = m := ⟨_, rfl⟩
   rw [hmm]
   have hmA : m ≤ G.A r.term f := by omega
   have hI := I.same_log (i := i) (x := ndOf { r with mt := fun j => if j = f then m else r.mt j, next := fun j => if j = f then m + 1 else r.next j } l) S.lt (by rw [S.eq]; rfl) (by rw [S.eq]; exact Nat.le_refl _) hw (fun _ => ⟨by rw [S.eq]; exact h3, by rw [S.eq]; rfl, fun q hq hne => by
    show (if q = f then m else r.mt q) ≤ _
    by_cases e : q = f
    · rw [if_pos e, e]; exact hmA
    · rw [if_neg e]; exact l4' q hq hne⟩) (fun h => absurd h (by show ¬ r.role = 2; omega)) S.com
   obtain ⟨S1, k1⟩ := S.step (r' := { r with mt := fun j => if j = f then m else r.mt j, next := fun j => if j = f then m + 1 else r.next j }) (l' := l) hI (Gle.refl G) (Nat.le_refl _) (fun _ h => absurd h (by show ¬ r.role = 2; omega)) rfl rfl S.whoR S.trk S.bc (fun _ => ⟨.inr h3, fun q hq hne => by
    show 1 ≤ (if q = f then m + 1 else r.next q) ∧ (if q = f then m + 1 else r.next q) ≤ l.length + 1
    by_cases e : q = f
    · rw [if_pos e]; omega
    · rw [if_neg e]; exact S.next h3 q hq hne⟩)
   obtain ⟨G2, S2, k2, L2, K2⟩ := S1.see h3
   refine ⟨G2, _, l, S2, k1.trans k2, ?_, ?_, ?_, fun _ => .inl ⟨h3, rfl⟩, ?_⟩
   · split
     · exact S2.update (OutOk.none_ ..) h3 hf hfi
     · exact OutOk.none_ ..
   · intro T hT
     rcases K2 T hT with h | ⟨h, _⟩
     · exact .inl h
     · exact .inr ⟨h, h3, .inr ⟨hy', h⟩⟩
   · intro B hB T
     rw [L2]
     exact Nat.le_succ_of_le (hB T)
   · dsimp only
     split
     · exact one_update S ..
     · exact Nat.zero_le _
theorem Fine.of {nd1 : Nat → Nd} {r1 : Rf} {res : Rf × Ou} {c c1 : Nat → Prop} {e : Prop} (k : Go n i G nd G nd1) (hr : r1.role = 3 → r.role = 3 ∧ r.term = r1.term) (hc : ∀ T, T = res.1.term → c1 T → c T) (h : Fine n i G nd1 r1 c1 e res) : Fine n i G nd r c e res := by
 obtain ⟨G', nd', l', a, b, o, x⟩ := h
 refine ⟨G', nd', l', a, k.trans b, o, fun T hT => ?_, x.sz, fun h3 => ?_, x.cnt⟩
 · rcases x.k T hT with h | ⟨h1, h2, h3⟩
   · exact .inl h
   · exact .inr ⟨h1, h2, h3.imp id (hc T h1)⟩
 · rcases x.el h3 with ⟨h1, h2⟩ | h
   · obtain ⟨a1, a2⟩ := hr h1
     exact .inl ⟨a1, a2.trans h2⟩
   · exact .inr h
theorem St.hear (S : St n G nd i r l) {f : Nat} (hf : f < n) (hfi : f ≠ i) {x : Nt} (hm : MsgOk n G nd f i x) (h64 : ∀ T, (G.LL T).length < 18446744073709551615) (d : Nat) : Fine n i G nd r (fun T => x.kind = 6 ∧ x.yes = true ∧ x.term = T ∧ r.role = 3 ∧ r.term = T) True (r.hear f x d) := by
 obtain ⟨nd1, S1, k1, hle⟩ := S.up x.term d
 have hup := up_role r x.term d
 have hm1 := hm.keep S.inv k1.g k1.m
 unfold Rf.hear
 dsimp only
 generalize r.up x.term d = r1 at *
 refine Fine.of (c1 := fun T => x.kind = 6 ∧ x.yes = true ∧ x.term = T ∧ r1.role = 3 ∧ r1.term = T) k1 hup (fun T _ h => ⟨h.1, h.2.1, h.2.2.1, (hup h.2.2.2.1).1, (hup h.2.2.2.1).2.trans h.2.2.2.2⟩) ?_
 have same : Fine n i G nd1 r1 (fun T => x.kind = 6 ∧ x.yes = true ∧ x.term = T ∧ r1.role = 3 ∧ r1.term = T) True (r1, Ou.none) := ⟨G, nd1, l, S1, Go.refl .., OutOk.none_ .., Ext.plain rfl rfl (fun h => ⟨h, rfl⟩) (Nat.zero_le _)⟩
 by_cases h1 : x.kind = 1
 · rw [if_pos h1]; exact S1.rank hf hfi x _ d
 rw [if_neg h1]
 by_cases h3 : x.kind = 3
 · rw [if_pos h3]; exact S1.vote hf hfi hm1 h3 _ rfl hle d
 rw [if_neg h3]
 by_cases h5 : x.kind = 5 ∨ x.kind = 7
 · rw [if_pos h5]
   cases ho : decide (x.term < r1.term) with
   | true =>
    rw [if_pos rfl]
    exact ⟨G, nd1, l, S1, Go.refl .., (OutOk.none_ ..).put hf (S1.plain ⟨by show ¬ (6 : Nat) = 3; decide, by show ¬ (6 : Nat) = 5; decide, by show ¬ (6 : Nat) = 7; decide⟩ (fun _ => rfl)), Ext.plain rfl rfl (fun h => ⟨h, rfl⟩) (one_put S1 ..)⟩
   | false =>
    rw [if_neg (by decide)]
    have := of_decide_eq_false ho
    by_cases hr : r1.role ≠ 3
    · rw [if_pos hr]; exact S1.led hf hfi hm1 h5 (by omega) hr h64 d
    · rw [if_neg hr]; exact same
 rw [if_neg h5]
 by_cases h2 : x.kind = 2
 · rw [if_pos h2]
   split
   · rename_i hc
     simp only [Bool.and_eq_true, decide_eq_true_eq] at hc
     obtain ⟨S2, k2⟩ := S1.calm (r' := { r1 with sides := fun j => if j = f then true else r1.sides j }) (Nat.le_refl _) (.inl ⟨rfl, rfl⟩) ⟨by show ¬ r1.role = 2; omega, by show ¬ r1.role = 3; omega⟩ rfl rfl rfl rfl rfl ⟨S1.bc, Nat.le_refl _⟩
     exact ⟨G, _, l, S2, k2, OutOk.none_ .., Ext.plain rfl rfl (fun h => ⟨h, rfl⟩) (Nat.zero_le _)⟩
   · exact same
 rw [if_neg h2]
 by_cases h4 : x.kind = 4
 · rw [if_pos h4]
   split
   · rename_i hc
     simp only [Bool.and_eq_true, Bool.not_eq_true', decide_eq_true_eq] at hc
     obtain ⟨c1, c2, c3⟩ := hc
     have := of_decide_eq_false c1
     have hv := hm1.voted h4 c3
     rw [show x.term = r1.term by omega] at hv
     have I := S1.inv
     have hcand := I.cand i S1.lt (by rw [S1.eq]; exact c2)
     have hw := I.who i S1.lt
     rw [S1.eq] at hcand hw
     have hI := I.same_log (i := i) (x := ndOf { r1 with sides := fun j => if j = f then true else r1.sides j } l) S1.lt (by rw [S1.eq]; rfl) (by rw [S1.eq]; exact Nat.le_refl _) hw (fun h => absurd h (by show ¬ r1.role = 3; omega)) (fun _ => ⟨by rw [S1.eq]; exact c2, by rw [S1.eq]; rfl, fun q hq hs => by
      by_cases e : q = f
      · rw [e]; exact hv
      · have hs' : (if q = f then true else r1.sides q) = true := hs
        rw [if_neg e] at hs'
        exact hcand.2.2.2 q hq hs'⟩) S1.com
     obtain ⟨S2, k2⟩ := S1.step (r' := { r1 with sides := fun j => if j = f then true else r1.sides j }) (l' := l) hI (Gle.refl G) (Nat.le_refl _) (fun _ h => ⟨c2, rfl⟩) rfl rfl S1.whoR S1.trk S1.bc (fun h => absurd h (by show ¬ r1.role = 3; omega))
     refine Fine.of (r1 := { r1 with sides := fun j => if j = f then true else r1.sides j }) (c1 := fun _ => False) k2 (fun h => ⟨h, rfl⟩) (fun _ _ h => h.elim) ?_
     split
     · rename_i hmost
       exact S2.lead c2 hmost (OutOk.none_ ..) (Nat.zero_le _) (.inr trivial)
     · exact ⟨G, _, l, S2, Go.refl .., OutOk.none_ .., Ext.plain rfl rfl (fun h => ⟨h, rfl⟩) (Nat.zero_le _)⟩
   · exact same
 rw [if_neg h4]
 by_cases h6 : x.kind = 6
 · rw [if_pos h6]
   split
   · rename_i hc
     simp only [Bool.and_eq_true, Bool.not_eq_true', decide_eq_true_eq] at hc
     have := of_decide_eq_false hc.1
     have hxt : x.term = r1.term := by omega
     exact Fine.of (Go.refl ..) (fun h => ⟨h, rfl⟩) (fun T _ h => ⟨h6, h.1, hxt.trans h.2.symm, hc.2, h.2.symm⟩) (S1.added hf hfi hm1 h6 hxt hc.2)
   · exact same
 rw [if_neg h6]
 exact same
theorem St.propose (S : St n G nd i r l) (d : List UInt8) : Fine n i G nd r (fun T => r.role = 3 ∧ r.term = T) False (r.propose d) := by
 unfold Rf.propose
 by_cases h : r.role ≠ 3 ∨ 3000 < d.length
 · rw [if_pos h]
   exact ⟨G, nd, l, S, Go.refl .., OutOk.none_ .., Ext.plain rfl rfl (fun h => ⟨h, rfl⟩) (Nat.zero_le _)⟩
 · rw [if_neg h]
   have hr : r.role = 3 := Classical.byContradiction fun hn => h (.inl hn)
   dsimp only
   obtain ⟨G1, S1, k1, K1, z1⟩ := S.add hr d
   obtain ⟨G2, S2, k2, L2, K2⟩ := S1.see hr
   refine ⟨G2, _, _, S2, k1.trans k2, S2.updates ⟨fun p h => (by cases h), fun k h => (by cases h), fun h => absurd rfl h⟩ hr, ?_, ?_, fun _ => .inl ⟨hr, rfl⟩, ?_⟩
   · intro T hT
     rcases K2 T hT with h | ⟨h, _⟩
     · rw [K1] at h; exact .inl h
     · exact .inr ⟨h, hr, .inr ⟨hr, h.symm⟩⟩
   · intro B hB T
     rw [L2]
     refine z1 B (fun U _ => Nat.le_succ_of_le (hB U)) ?_ T
     have := len_bound S.inv S.lt hB
     rw [S.eq] at this
     exact this
   · have := cnt_updates (r.add d).see (r.addO Ou.none d)
     have e1 : (r.add d).see.n = n := S.rn
     rw [e1] at this
     have e2 : ocnt (r.addO Ou.none d) = 0 := rfl
     show ocnt ((r.add d).see.updates (r.addO Ou.none d)) ≤ 2 * n
     omega
theorem St.pack (S : St n G nd i r l) : St n G nd i r.pack l := by
 have hc := S.com
 refine ⟨S.inv, S.eq, S.lt, S.rn, S.id, S.whoR, ⟨hc.1, ?_, ?_⟩, Nat.le_refl _, S.next⟩
 · show r.es.drop (r.commit - r.base) = _
   have := S.bc
   rw [S.trk.es, List.drop_drop]
   congr 1
   show r.base + (r.commit - r.base) = r.commit
   omega
 · show (termAt r.base r.bt r.es r.commit).1 = tAt l r.commit
   rw [S.trk.at S.bc hc.1]
theorem St.crash (S : St n G nd i r l) (d : Nat) : ∃ nd', St n G nd' i (r.crash d) l ∧ Go n i G nd G nd' := by
 obtain ⟨S1, k1⟩ := S.calm (r' := r.crash d) (Nat.le_refl _) (.inl ⟨rfl, rfl⟩) ⟨by show ¬ (0 : Nat) = 2; decide, by show ¬ (0 : Nat) = 3; decide⟩ rfl rfl rfl rfl rfl ⟨Nat.le_refl _, S.bc⟩
 exact ⟨_, S1, k1⟩
end
def gh0 : Gh := ⟨fun _ => [], fun _ => [], fun _ => none, fun _ _ => none, fun _ _ => none, fun _ _ => 0, fun _ => False⟩
theorem inv0 (n T : Nat) (d : Nat → Nat) : Inv n gh0 (fun i => ndOf (Rf.init n i T (d i)) []) := by
 have hlen : ∀ k, k ≤ ([] : Log).length → k = 0 := fun k h => by simpa using h
 refine ⟨fun i _ => good_nil _, fun i _ k hk => ?_, fun _ _ => rfl, fun T c h => (by cases h), fun T i c _ h => (by cases h), fun i _ => rfl, fun T c h => (by cases h), fun U q X _ h => (by cases h), fun T q c _ h => (by cases h), fun T q _ => ⟨Nat.zero_le _, fun h => absurd h (Nat.lt_irrefl _)⟩, fun T q k _ h1 h2 => ?_, fun U q X T k _ h => (by cases h), fun i _ h => ?_, fun i _ h => ?_, fun i _ => ⟨Nat.zero_le _, .inl rfl⟩⟩
 · have : k = 0 := hlen k hk
   subst this
   exact Nat.zero_le _
 · have : k ≤ 0 := h2
   omega
 · exact absurd h (by show ¬ (0 : Nat) = 3; decide)
 · exact absurd h (by show ¬ (0 : Nat) = 2; decide)
theorem st0 (n T : Nat) (d : Nat → Nat) (i : Nat) (hi : i < n) : St n gh0 (fun i => ndOf (Rf.init n i T (d i)) []) i (Rf.init n i T (d i)) [] :=
 ⟨inv0 n T d, rfl, hi, rfl, rfl, by show (-1 : Int) ≤ -1; decide, ⟨Nat.zero_le _, rfl, rfl⟩, Nat.le_refl _, fun h => absurd h (by show ¬ (0 : Nat) = 3; decide)⟩
end Go.Proofs.Yteellfgiejnigaa.RS
