/- RaftSafe: S9, S10, S11, S12. -/
import Derived.Test.YteellfgiejnigaaQtA07
namespace Go.Proofs.Yteellfgiejnigaa.RS
set_option linter.unusedVariables false
section
variable {n : Nat} {G G' : Gh} {nd nd' : Nat → Nd}
def Dead (n : Nat) (G : Gh) (nd : Nat → Nd) (T : Nat) : Prop :=
 ∃ p, Maj n p ∧ (∀ q, q < n → p q = true → T ≤ (nd q).term) ∧ ∀ i, i < n → (nd i).term < T → (nd i).role ≠ 3 ∧ ((nd i).role = 2 → ∀ q, q < n → p q = true → G.V (nd i).term q ≠ some i)
theorem Inv.dead (I : Inv n G nd) {T : Nat} (hL : G.Ld T ≠ none) (h : ∀ i, i < n → (nd i).term < T → (nd i).role ≠ 3 ∧ (nd i).role ≠ 2) : Dead n G nd T := by
 obtain ⟨c, hc⟩ := Option.ne_none_iff_exists'.1 hL
 obtain ⟨p, hp, hq⟩ := I.quo T c hc
 exact ⟨p, hp, fun q hqn hpq => (I.votes T q c hqn (hq q hqn hpq).1).2.1, fun i hi ht => ⟨(h i hi ht).1, fun e => absurd e (h i hi ht).2⟩⟩
theorem Dead.keep {T i0 : Nat} (D : Dead n G nd T) (I : Inv n G nd) (I' : Inv n G' nd') (k : Go n i0 G nd G' nd') : Dead n G' nd' T := by
 obtain ⟨p, hp, h1, h2⟩ := D
 have frozen : ∀ q U, q < n → p q = true → U < T → G'.V U q = G.V U q := fun q U hq hpq hU => k.v U q hq (Nat.lt_of_lt_of_le hU (h1 q hq hpq))
 refine ⟨p, hp, fun q hq hpq => Nat.le_trans (h1 q hq hpq) (k.m.term q hq), fun i hi ht => ?_⟩
 have tm := k.m.term i hi
 obtain ⟨a, b⟩ := h2 i hi (by omega)
 have late : (nd i).term < (nd' i).term → ∀ q, q < n → p q = true → G'.V (nd' i).term q ≠ some i := by
  intro hlt q hq hpq e
  rw [frozen q _ hq hpq ht] at e
  have := (I.votes _ q i hq e).2.2
  omega
 have both : (nd' i).role = 2 → ∀ q, q < n → p q = true → G'.V (nd' i).term q ≠ some i := by
  intro h q hq hpq
  by_cases e : (nd' i).term = (nd i).term
  · rw [frozen q _ hq hpq ht, e]
    exact b (k.m.cand i hi e h).1 q hq hpq
  · exact late (by omega) q hq hpq
 refine ⟨fun h => ?_, both⟩
 obtain ⟨p', hp', hq'⟩ := I'.quo _ _ (I'.lead i hi h).1
 obtain ⟨q, hq, e1, e2⟩ := maj_meet hp hp'
 have hv := (hq' q hq e2).1
 by_cases e : (nd' i).term = (nd i).term
 · rcases k.m.lead i hi e h with r | r
   · rw [frozen q _ hq e1 ht, e] at hv
     exact b r q hq e1 hv
   · exact a r
 · exact late (by omega) q hq e1 hv
end
structure Mail where
 from_ : Nat
 to : Nat
 x : Nt
structure W where
 n : Nat
 T : Nat
 r : Nat → Rf
 up : Nat → Bool
 mails : List Mail
 leaders : Nat → Option Nat
 cm : Log
def room (ms l : List Mail) : List Mail := ms ++ l.take (600 - ms.length)
theorem room_pre (ms l : List Mail) : ms <+: room ms l := List.prefix_append _ _
theorem mem_room {ms l : List Mail} {m : Mail} (h : m ∈ room ms l) : m ∈ ms ∨ m ∈ l := (List.mem_append.1 h).imp id List.mem_of_mem_take
theorem room_all {ms l : List Mail} (h : ms.length + l.length ≤ 600) : room ms l = ms ++ l := by
 unfold room
 rw [List.take_of_length_le (by omega)]
def shotN (r : Rf) : Nt := { Rf.nt 7 with term := r.term, index := r.base, at_ := r.bt }
namespace W
def set (w : W) (i : Nat) (r : Rf) : W := { w with r := fun j => if j = i then r else w.r j }
def sends (i : Nat) (o : Ou) : List Mail := o.send.map fun p => ⟨i, p.1, p.2⟩
def needs (i : Nat) (r : Rf) (o : Ou) : List Mail := o.need.map fun k => ⟨i, k, shotN r⟩
def sent (w : W) (i : Nat) (o : Ou) : W := { w with mails := room (room w.mails (sends i o)) (needs i (w.r i) o) }
def took (w : W) (i : Nat) (res : Rf × Ou) : W := (w.set i res.1).sent i res.2
theorem took_mails (w : W) (i : Nat) (res : Rf × Ou) : (w.took i res).mails = room (room w.mails (sends i res.2)) (needs i res.1 res.2) := by
 show room (room w.mails (sends i res.2)) (needs i (if i = i then res.1 else w.r i) res.2) = _
 rw [if_pos rfl]
theorem took_same (w : W) (i : Nat) (res : Rf × Ou) : (w.took i res).r i = res.1 := by
 show (if i = i then res.1 else w.r i) = _
 rw [if_pos rfl]
theorem took_ne (w : W) {i j : Nat} (res : Rf × Ou) (h : j ≠ i) : (w.took i res).r j = w.r j := by
 show (if j = i then res.1 else w.r j) = _
 rw [if_neg h]
end W
structure WI (w : W) (G : Gh) (nd : Nat → Nd) (l : Nat → Log) : Prop where
 inv : Inv w.n G nd
 st : ∀ i, i < w.n → St w.n G nd i (w.r i) (l i)
 ml : ∀ m, m ∈ w.mails → m.from_ < w.n ∧ m.to < w.n ∧ MsgOk w.n G nd m.from_ m.to m.x ∧ (m.x.kind = 7 → m.x.index ≤ w.cm.length)
 bs : ∀ i, i < w.n → (w.r i).base ≤ w.cm.length
 dn : ∀ i, i < w.n → w.up i = false → (w.r i).role = 0
 cm : ∃ U, ComC w.n G U w.cm
 kk : ∀ T, G.K T → w.leaders T ≠ none ∨ Dead w.n G nd T
 ls : ∀ T c, w.leaders T = some c → G.Ld T = some c
section
variable {w : W} {G G' : Gh} {nd nd' : Nat → Nd} {l l' : Nat → Log} {i : Nat} {res : Rf × Ou} {c : Nat → Prop} {e : Prop}
theorem St.shot {n : Nat} {r : Rf} {l : Log} (S : St n G nd i r l) (hr : r.role = 3) {t : Nat} : MsgOk n G nd i t (shotN r) := by
 obtain ⟨l1, l2, _, _⟩ := S.inv.lead i S.lt (by rw [S.eq]; exact hr)
 rw [S.eq] at l1 l2
 have l2' : l = G.LL r.term := l2
 have hcom := S.com
 have hb := S.bc
 refine ⟨S.lt, by rw [S.eq]; exact Nat.le_refl _, fun h => absurd h (by show ¬ (7 : Nat) = 3; decide), fun h _ => absurd h (by show ¬ (7 : Nat) = 4; decide), fun h => absurd h (by show ¬ (7 : Nat) = 5; decide), fun h _ => absurd h (by show ¬ (7 : Nat) = 6; decide), fun _ => ?_⟩
 show G.Ld r.term = some i ∧ r.base ≤ (G.LL r.term).length ∧ r.bt = tAt (G.LL r.term) r.base ∧ ComC n G r.term ((G.LL r.term).take r.base)
 rw [← l2']
 exact ⟨l1, S.trk.base, S.trk.term, hcom.2.of_pre (take_take_pre _ hb)⟩
theorem St.other {n i0 j : Nat} {r : Rf} {l : Log} (S : St n G nd j r l) (I' : Inv n G' nd') (k : Go n i0 G nd G' nd') (h : j ≠ i0) : St n G' nd' j r l :=
 ⟨I', (k.f j h).trans S.eq, S.lt, S.rn, S.id, S.whoR, S.trk, S.bc, S.next⟩
theorem WI.took (I : WI w G nd l) (hi : i < w.n) (hf : Fine w.n i G nd (w.r i) c e res) (hb : res.1.base ≤ w.cm.length) (hup : w.up i = false → res.1.role = 0) (h7 : ∀ p, p ∈ res.2.send → p.2.kind ≠ 7)
 (hc : ∀ T, T = res.1.term → c T → w.leaders T ≠ none ∨ ∀ j, j < w.n → w.up j = true → j ≠ i → T ≤ (w.r j).term) :
 ∃ G' nd' l', WI (w.took i res) G' nd' l' ∧ Go w.n i G nd G' nd' ∧ Ext w.n i G G' (w.r i) c e res := by
 obtain ⟨G', nd', li, S', k, O, X⟩ := hf
 have I' := S'.inv
 refine ⟨G', nd', fun j => if j = i then li else l j, ⟨I', fun j hj => ?_, fun m hm => ?_, fun j hj => ?_, fun j hj hd => ?_, ?_, fun T hT => ?_, fun T d hd => k.g.Ld _ _ (I.ls T d hd)⟩, k, X⟩
 · by_cases h : j = i
   · subst h
     rw [W.took_same]
     show St w.n G' nd' j res.1 (if j = j then li else l j)
     rw [if_pos rfl]; exact S'
   · rw [W.took_ne _ _ h]
     show St w.n G' nd' j (w.r j) (if j = i then li else l j)
     rw [if_neg h]; exact (I.st j hj).other I' k h
 · rw [W.took_mails] at hm
   rcases mem_room hm with hm | hm
   · rcases mem_room hm with hm | hm
     · obtain ⟨a, b, m1, d⟩ := I.ml m hm
       exact ⟨a, b, m1.keep I.inv k.g k.m, d⟩
     · obtain ⟨p, hp, rfl⟩ := List.mem_map.1 hm
       obtain ⟨a, b⟩ := O.send p hp
       exact ⟨hi, a, b, fun h => absurd h (h7 p hp)⟩
   · obtain ⟨q, hq, rfl⟩ := List.mem_map.1 hm
     have hr := O.lead (fun e => by rw [e] at hq; cases hq)
     exact ⟨hi, O.need q hq, S'.shot hr, fun _ => hb⟩
 · by_cases h : j = i
   · subst h; rw [W.took_same]; exact hb
   · rw [W.took_ne _ _ h]; exact I.bs j hj
 · by_cases h : j = i
   · subst h; rw [W.took_same]; exact hup hd
   · rw [W.took_ne _ _ h]; exact I.dn j hj hd
 · obtain ⟨U, hU⟩ := I.cm
   exact ⟨U, hU.gle k.g⟩
 · rcases X.k T hT with h | ⟨h1, h2, h3⟩
   · exact (I.kk T h).imp id fun D => D.keep I.inv I' k
   · have hti : (nd' i).term = T := by rw [S'.eq, h1]; rfl
     have hri : (nd' i).role = 3 := by rw [S'.eq]; exact h2
     have hL : G'.Ld T ≠ none := by
      have := (I'.lead i hi hri).1
      rw [hti] at this
      rw [this]; simp
     have dead : (∀ j, j < w.n → w.up j = true → j ≠ i → T ≤ (w.r j).term) → Dead w.n G' nd' T := by
      intro h
      refine I'.dead hL fun j hj ht => ?_
      have hne : j ≠ i := fun e => by subst e; omega
      rw [k.f j hne, (I.st j hj).eq] at ht ⊢
      cases hu : w.up j with
      | true => exact absurd (show (w.r j).term < T from ht) (by have := h j hj hu hne; omega)
      | false =>
       have := I.dn j hj hu
       refine ⟨?_, ?_⟩
       · show ¬ (w.r j).role = 3
         omega
       · show ¬ (w.r j).role = 2
         omega
     rcases h3 with h3 | h3
     · exact .inr (dead fun j hj _ hne => absurd hne (by omega))
     · exact (hc T h1 h3).imp id dead
end
namespace Rf
def No7 (o : Ou) : Prop := ∀ p, p ∈ o.send → p.2.kind ≠ 7
theorem no7_none : No7 Ou.none := fun p h => by cases h
theorem No7.put {o : Ou} (h : No7 o) (r : Rf) (t : Nat) {x : Nt} (hx : x.kind ≠ 7) : No7 (r.put o t x) := by
 intro p hp
 rcases List.mem_append.1 hp with hp | hp
 · exact h p hp
 · have : p = (t, { x with term := r.term }) := by simpa using hp
   subst this
   exact hx
theorem No7.fold {f : Ou → Nat → Ou} (hf : ∀ o q, No7 o → No7 (f o q)) : ∀ (qs : List Nat) {o : Ou}, No7 o → No7 (qs.foldl f o) := by
 intro qs
 induction qs with
 | nil => intro o h; exact h
 | cons q qs ih => intro o h; exact ih (hf o q h)
theorem No7.ask {o : Ou} (h : No7 o) (r : Rf) {k : Nat} (hk : k ≠ 7) : No7 (r.ask o k) := No7.fold (fun o q h => h.put r q (show k ≠ 7 from hk)) _ h
theorem No7.update {o : Ou} (h : No7 o) (r : Rf) (q : Nat) : No7 (r.update o q) := by
 unfold Rf.update
 split
 · exact h
 · exact h.put r q (show (5 : Nat) ≠ 7 by decide)
theorem No7.updates {o : Ou} (h : No7 o) (r : Rf) : No7 (r.updates o) := No7.fold (fun o q h => h.update r q) _ h
theorem No7.lead {o : Ou} (h : No7 o) (r : Rf) : No7 (r.lead o).2 := No7.updates (o := r.lead0.addO o []) h _
theorem tick_all (r : Rf) (d : Nat) : (r.tick d).1.base = r.base ∧ r.term ≤ (r.tick d).1.term ∧ (r.tick d).1.term ≤ r.term + 1 ∧ No7 (r.tick d).2 := by
 unfold Rf.tick
 split
 · dsimp only
   split
   · exact ⟨rfl, Nat.le_refl _, Nat.le_succ _, no7_none.updates _⟩
   · exact ⟨rfl, Nat.le_refl _, Nat.le_succ _, no7_none⟩
 · dsimp only
   split
   · exact ⟨rfl, Nat.le_refl _, Nat.le_succ _, no7_none⟩
   · split
     · exact ⟨rfl, Nat.le_refl _, Nat.le_succ _, no7_none.ask _ (by decide)⟩
     · split
       · split
         · exact ⟨rfl, Nat.le_succ _, Nat.le_refl _, (no7_none.ask _ (by decide)).lead _⟩
         · exact ⟨rfl, Nat.le_succ _, Nat.le_refl _, no7_none.ask _ (by decide)⟩
       · exact ⟨rfl, Nat.le_refl _, Nat.le_succ _, no7_none⟩
theorem up_all (r : Rf) (t d : Nat) : (r.up t d).base = r.base ∧ r.term ≤ (r.up t d).term ∧ t ≤ (r.up t d).term ∧ (r.up t d).term ≤ max r.term t := by
 unfold Rf.up
 by_cases h : r.term < t
 · rw [if_pos h]
   dsimp only
   refine ⟨?_, Nat.le_of_lt h, Nat.le_refl _, Nat.le_max_right ..⟩
   split <;> rfl
 · rw [if_neg h]
   exact ⟨rfl, Nat.le_refl _, by omega, Nat.le_max_left ..⟩
theorem rank_all (r : Rf) (f : Nat) (x : Nt) (old : Bool) (d : Nat) : (r.rank f x old d).1.base = r.base ∧ (r.rank f x old d).1.term = r.term ∧ No7 (r.rank f x old d).2 := by
 unfold Rf.rank
 dsimp only
 refine ⟨by split <;> rfl, by split <;> rfl, ?_⟩
 have key : ∀ (r1 : Rf) (b : Bool), No7 (if b = true then r1.update (r1.put Ou.none f { nt 2 with round := x.round, yes := r.rankYes f x old }) f else r1.put Ou.none f { nt 2 with round := x.round, yes := r.rankYes f x old }) := by
  intro r1 b
  have h : No7 (r1.put Ou.none f { nt 2 with round := x.round, yes := r.rankYes f x old }) := by
   apply No7.put no7_none
   show ¬ (2 : Nat) = 7
   decide
  cases b
  · exact h
  · exact h.update _ _
 exact key _ _
theorem vote_all (r : Rf) (f : Nat) (x : Nt) (old : Bool) (d : Nat) : (r.vote f x old d).1.base = r.base ∧ (r.vote f x old d).1.term = r.term ∧ No7 (r.vote f x old d).2 := by
 unfold Rf.vote
 dsimp only
 refine ⟨by split <;> rfl, by split <;> rfl, ?_⟩
 apply No7.put no7_none
 show ¬ (4 : Nat) = 7
 decide
theorem No7.answer {o : Ou} (h : No7 o) (r : Rf) (f k : Nat) (y : Bool) : No7 (r.answer o f k y) := h.put _ _ (by show ¬ (6 : Nat) = 7; decide)
theorem led_all (r : Rf) (f : Nat) (x : Nt) (d : Nat) : ((r.led f x d).1.base = r.base ∨ (x.kind = 7 ∧ (r.led f x d).1.base = x.index)) ∧ (r.led f x d).1.term = r.term ∧ No7 (r.led f x d).2 := by
 unfold Rf.led Rf.led1
 dsimp only
 split
 · rename_i h7
   split
   · exact ⟨.inl rfl, rfl, no7_none.answer _ _ _ _⟩
   · split
     iterate 2
      · exact ⟨.inr ⟨h7, rfl⟩, rfl, no7_none.answer _ _ _ _⟩
 · split
   · exact ⟨.inl rfl, rfl, no7_none.answer _ _ _ _⟩
   · split
     · exact ⟨.inl rfl, rfl, no7_none.answer _ _ _ _⟩
     · split
       · exact ⟨.inl rfl, rfl, no7_none⟩
       · exact ⟨.inl rfl, rfl, No7.answer (o := { Ou.none with add := _ }) no7_none _ _ _ _⟩
theorem added_all (r : Rf) (f : Nat) (x : Nt) : (r.added f x).1.base = r.base ∧ (r.added f x).1.term = r.term ∧ No7 (r.added f x).2 := by
 unfold Rf.added
 split
 · exact ⟨rfl, rfl, no7_none.update _ _⟩
 · dsimp only
   refine ⟨rfl, rfl, ?_⟩
   split
   · exact no7_none.update _ _
   · exact no7_none
theorem hear_all (r : Rf) (f : Nat) (x : Nt) (d : Nat) : ((r.hear f x d).1.base = r.base ∨ (x.kind = 7 ∧ (r.hear f x d).1.base = x.index)) ∧ (r.hear f x d).1.term = (r.up x.term d).term ∧ No7 (r.hear f x d).2 := by
 have hb := (up_all r x.term d).1
 unfold Rf.hear
 dsimp only
 generalize r.up x.term d = r1 at *
 rw [← hb]
 have same : (r1.base = r1.base ∨ (x.kind = 7 ∧ r1.base = x.index)) ∧ r1.term = r1.term ∧ No7 Ou.none := ⟨.inl rfl, rfl, no7_none⟩
 split
 · have := rank_all r1 f x (decide (x.term < r1.term)) d
   exact ⟨.inl this.1, this.2⟩
 split
 · have := vote_all r1 f x (decide (x.term < r1.term)) d
   exact ⟨.inl this.1, this.2⟩
 split
 · split
   · refine ⟨.inl rfl, rfl, ?_⟩
     apply No7.put no7_none
     show ¬ (6 : Nat) = 7
     decide
   · split
     · exact led_all r1 f x d
     · exact same
 split
 · split
   · exact ⟨.inl rfl, rfl, no7_none⟩
   · exact same
 split
 · split
   · split
     · exact ⟨.inl rfl, rfl, no7_none.lead _⟩
     · exact ⟨.inl rfl, rfl, no7_none⟩
   · exact same
 split
 · split
   · have := added_all r1 f x
     exact ⟨.inl this.1, this.2⟩
   · exact same
 exact same
theorem propose_all (r : Rf) (d : List UInt8) : (r.propose d).1.base = r.base ∧ (r.propose d).1.term = r.term ∧ No7 (r.propose d).2 := by
 unfold Rf.propose
 split
 · exact ⟨rfl, rfl, no7_none⟩
 · exact ⟨rfl, rfl, No7.updates (o := r.addO Ou.none d) no7_none _⟩
end Rf
namespace W
def heard (w : W) (m : Mail) (d : Nat) : Rf × Ou := if m.from_ = m.to then (w.r m.to, Ou.none) else (w.r m.to).hear m.from_ m.x d
def arrive (w : W) (m : Mail) (d : Nat) : W := if m.to < w.n ∧ w.up m.to = true then w.took m.to (w.heard m d) else w
def tickOne (w : W) (i d : Nat) : W := if w.up i = true then w.took i ((w.r i).tick d) else w
def with_ (w : W) (ms : List Mail) : W := { w with mails := ms }
def ticks (dr : Nat → Nat) : Nat → Nat → W → W
 | 0, _, w => w
 | k + 1, h, w => ticks dr k (h + 1) (w.tickOne h (dr h))
def flow (dr : Nat → Nat) : Nat → Nat → W → W
 | 0, _, w => w
 | rem + 1, h, w => match w.mails with
  | [] => w
  | m :: ms => flow dr rem (h + 1) ((w.with_ ms).arrive m (dr h))
end W
structure Sz (w : W) (G : Gh) (B : Nat) : Prop where
 log : ∀ T, (G.LL T).length ≤ B
 term : ∀ i, i < w.n → (w.r i).term ≤ B
def Small (w : W) (B : Nat) : Prop := 1 ≤ w.n ∧ w.n ≤ 7 ∧ ∃ G nd l, WI w G nd l ∧ Sz w G B
def Seen (w : W) : Prop := w.n < 2 ∨ ∀ i, i < w.n → (w.r i).role = 3 → w.leaders (w.r i).term ≠ none
def Ack (i T : Nat) (m : Mail) : Prop := m.from_ ≠ i ∧ m.x.kind = 6 ∧ m.x.yes = true ∧ m.x.term = T
def FI (w : W) (rem : Nat) : Prop := w.n < 2 ∨ ∀ i, i < w.n → (w.r i).role = 3 → w.leaders (w.r i).term = none →
 ∃ k, k ≤ w.mails.length ∧ (∀ m, m ∈ w.mails.take k → ¬ Ack i (w.r i).term m) ∧ (rem ≤ k ∨ ∀ q, q < w.n → q ≠ i → w.up q = true → (w.r i).term ≤ (w.r q).term ∨ ∃ m, m ∈ w.mails.take k ∧ m.from_ = i ∧ m.to = q ∧ (w.r i).term ≤ m.x.term)
theorem Seen.fi {w : W} (h : Seen w) (rem : Nat) : FI w rem := by
 rcases h with h | h
 · exact .inl h
 · exact .inr fun i hi hr hl => absurd hl (h i hi hr)
section
variable {w : W} {G G' : Gh} {nd nd' : Nat → Nd} {l l' : Nat → Log} {i : Nat}
theorem WI.with_ (I : WI w G nd l) {ms : List Mail} (h : ∀ m, m ∈ ms → m ∈ w.mails) : WI (w.with_ ms) G nd l :=
 ⟨I.inv, I.st, fun m hm => I.ml m (h m hm), I.bs, I.dn, I.cm, I.kk, I.ls⟩
theorem took_sz {res : Rf × Ou} {c : Nat → Prop} {e : Prop} {B : Nat} (Z : Sz w G B) (X : Ext w.n i G G' (w.r i) c e res) (ht : res.1.term ≤ B + 1) : Sz (w.took i res) G' (B + 1) := by
 refine ⟨fun T => X.sz B Z.log T, fun j hj => ?_⟩
 by_cases h : j = i
 · subst h; rw [W.took_same]; exact ht
 · rw [W.took_ne _ _ h]; exact Nat.le_succ_of_le (Z.term j hj)
theorem WI.tick {B : Nat} (I : WI w G nd l) (Z : Sz w G B) (hB : B + 1 < 18446744073709551615) (hS : Seen w) (hi : i < w.n) (hu : w.up i = true) (d : Nat) :
 ∃ G' nd' l', WI (w.took i ((w.r i).tick d)) G' nd' l' ∧ Sz (w.took i ((w.r i).tick d)) G' (B + 1) ∧ Seen (w.took i ((w.r i).tick d)) := by
 obtain ⟨t1, t2, t3, t4⟩ := (w.r i).tick_all d
 have hT := Z.term i hi
 have hf := (I.st i hi).tick (by omega) d
 obtain ⟨G', nd', l', I', k, X⟩ := I.took hi hf (by rw [t1]; exact I.bs i hi) (fun h => by rw [hu] at h; cases h) t4 (fun _ _ h => h.elim)
 refine ⟨G', nd', l', I', took_sz Z X (by omega), ?_⟩
 rcases hS with h | h
 · exact .inl h
 · by_cases hn : w.n < 2
   · exact .inl hn
   · right
     intro j hj hr
     by_cases e : j = i
     · subst e
       rw [W.took_same] at hr ⊢
       rcases X.el hr with ⟨a, b⟩ | a | a
       · rw [← b]; exact h j hj a
       · exact absurd a hn
       · exact a.1.elim
     · rw [W.took_ne _ _ e] at hr ⊢; exact h j hj hr
theorem ticks_ok (dr : Nat → Nat) : ∀ (k h : Nat) (w : W) (B : Nat), h + k ≤ w.n → B + k < 18446744073709551615 → Seen w → Small w B → Seen (w.ticks dr k h) ∧ Small (w.ticks dr k h) (B + k) := by
 intro k
 induction k with
 | zero => intro h w B _ _ hS hP; exact ⟨hS, hP⟩
 | succ k ih =>
  intro h w B hk hB hS hP
  obtain ⟨n1, n7, G, nd, l, I, Z⟩ := hP
  show Seen (W.ticks dr k (h + 1) (w.tickOne h (dr h))) ∧ Small (W.ticks dr k (h + 1) (w.tickOne h (dr h))) (B + (k + 1))
  rw [show B + (k + 1) = (B + 1) + k by omega]
  unfold W.tickOne
  by_cases hu : w.up h = true
  · rw [if_pos hu]
    obtain ⟨G', nd', l', I', Z', S'⟩ := I.tick Z (by omega) hS (by omega) hu (dr h)
    exact ih (h + 1) _ (B + 1) (by show h + 1 + k ≤ w.n; omega) (by omega) S' ⟨n1, n7, G', nd', l', I', Z'⟩
  · rw [if_neg hu]
    exact ih (h + 1) w (B + 1) (by omega) (by omega) hS ⟨n1, n7, G, nd, l, I, ⟨fun T => Nat.le_succ_of_le (Z.log T), fun j hj => Nat.le_succ_of_le (Z.term j hj)⟩⟩
theorem WI.mail {B : Nat} (I : WI w G nd l) (Z : Sz w G B) (hB : B + 1 < 18446744073709551615) {m : Mail} (hm : m ∈ w.mails) {ms : List Mail} (hms : ∀ m, m ∈ ms → m ∈ w.mails)
 (hc : m.from_ ≠ m.to → m.x.kind = 6 → m.x.yes = true → (w.r m.to).role = 3 → (w.r m.to).term = m.x.term → w.n < 2 ∨ w.leaders m.x.term ≠ none ∨ ∀ j, j < w.n → w.up j = true → j ≠ m.to → m.x.term ≤ (w.r j).term) (hu : w.up m.to = true) (d : Nat) :
 ∃ G' nd' l', WI ((w.with_ ms).took m.to (w.heard m d)) G' nd' l' ∧ Sz ((w.with_ ms).took m.to (w.heard m d)) G' (B + 1) ∧ Go w.n m.to G nd G' nd' ∧ Ext w.n m.to G G' (w.r m.to) (fun _ => True) True (w.heard m d) := by
 obtain ⟨hf, ht, hok, h7⟩ := I.ml m hm
 have I1 := I.with_ hms
 have Z1 : Sz (w.with_ ms) G B := ⟨Z.log, Z.term⟩
 have hle := hok.le
 have hsf := (I.st m.from_ hf).eq
 have hxB : m.x.term ≤ B := by
  have := Z.term m.from_ hf
  rw [hsf] at hle
  exact Nat.le_trans hle this
 have hres : Fine w.n m.to G nd (w.r m.to) (fun T => m.from_ ≠ m.to ∧ m.x.kind = 6 ∧ m.x.yes = true ∧ m.x.term = T ∧ (w.r m.to).role = 3 ∧ (w.r m.to).term = T) True (w.heard m d) ∧ (w.heard m d).1.base ≤ w.cm.length ∧ (w.heard m d).1.term ≤ B + 1 ∧ (∀ p, p ∈ (w.heard m d).2.send → p.2.kind ≠ 7) := by
  have hT := Z.term m.to ht
  unfold W.heard
  by_cases e : m.from_ = m.to
  · rw [if_pos e]
    exact ⟨⟨G, nd, _, I.st _ ht, Go.refl .., OutOk.none_ .., Ext.plain rfl rfl (fun h => ⟨h, rfl⟩) (Nat.zero_le _)⟩, I.bs _ ht, by show (w.r m.to).term ≤ B + 1; omega, Rf.no7_none⟩
  · rw [if_neg e]
    obtain ⟨a1, a2, a3⟩ := (w.r m.to).hear_all m.from_ m.x d
    have hup := ((w.r m.to).up_all m.x.term d).2.2.2
    refine ⟨?_, ?_, by rw [a2]; omega, a3⟩
    · have := (I.st _ ht).hear hf e hok (fun T => by have := Z.log T; omega) d
      obtain ⟨G', nd', li, S', k, O, X⟩ := this
      refine ⟨G', nd', li, S', k, O, fun T hT => ?_, X.sz, X.el, X.cnt⟩
      rcases X.k T hT with h | ⟨h1, h2, h3⟩
      · exact .inl h
      · exact .inr ⟨h1, h2, h3.imp id fun h => ⟨e, h⟩⟩
    · rcases a1 with h | ⟨h, h'⟩
      · rw [h]; exact I.bs _ ht
      · rw [h']; exact h7 h
 obtain ⟨h1, h2, h3, h4⟩ := hres
 have : ∃ G' nd' l', WI ((w.with_ ms).took m.to (w.heard m d)) G' nd' l' ∧ Go w.n m.to G nd G' nd' ∧ Ext w.n m.to G G' (w.r m.to) _ True (w.heard m d) :=
  I1.took (i := m.to) (res := w.heard m d) ht h1 h2 (fun h => by rw [show (w.with_ ms).up m.to = w.up m.to from rfl, hu] at h; cases h) h4 (fun T hT hcc => by
   obtain ⟨c1, c2, c3, c4, c5, c6⟩ := hcc
   have := hc c1 c2 c3 c5 (c6.trans c4.symm)
   rw [c4] at this
   rcases this with h | h | h
   · exact .inr fun j hj _ hne => absurd hne (by have hj' : j < w.n := hj; omega)
   · exact .inl h
   · exact .inr h)
 obtain ⟨G', nd', l', I', k, X⟩ := this
 refine ⟨G', nd', l', I', took_sz (w := w.with_ ms) Z1 X h3, k, fun T hT => ?_, X.sz, X.el, X.cnt⟩
 exact (X.k T hT).imp id fun h => ⟨h.1, h.2.1, .inr trivial⟩
end
section
variable {w : W} {G G' : Gh} {nd nd' : Nat → Nd} {l l' : Nat → Log}
theorem take_tail {m : Mail} {ms : List Mail} {k : Nat} {x : Mail} (h : x ∈ ms.take (k - 1)) : x ∈ (m :: ms).take k := by
 cases k with
 | zero => exact absurd h (by simp)
 | succ k => exact List.mem_cons_of_mem _ h
theorem take_head {m : Mail} {ms : List Mail} {k : Nat} {x : Mail} (h : x ∈ (m :: ms).take k) : x = m ∨ x ∈ ms.take (k - 1) := by
 cases k with
 | zero => exact absurd h (by simp)
 | succ k => exact List.mem_cons.1 h
theorem FI.head {rem : Nat} {m : Mail} {ms : List Mail} (F : FI w (rem + 1)) (hm : w.mails = m :: ms) (ht : m.to < w.n) (hne : m.from_ ≠ m.to) (h6 : m.x.kind = 6) (hy : m.x.yes = true) (hr : (w.r m.to).role = 3) (he : (w.r m.to).term = m.x.term) :
 w.n < 2 ∨ w.leaders m.x.term ≠ none ∨ ∀ j, j < w.n → w.up j = true → j ≠ m.to → m.x.term ≤ (w.r j).term := by
 rcases F with F | F
 · exact .inl F
 · right
   by_cases hl : w.leaders m.x.term = none
   · right
     obtain ⟨k, hk, ha, hb⟩ := F m.to ht hr (by rw [he]; exact hl)
     rw [hm] at ha hb
     have k0 : k = 0 := by
      cases k with
      | zero => rfl
      | succ k => exact absurd ⟨hne, h6, hy, he.symm⟩ (ha m (List.mem_cons_self ..))
     subst k0
     intro j hj hu hji
     rcases hb with hb | hb
     · omega
     · rcases hb j hj hji hu with h | ⟨x, hx, _⟩
       · rw [he] at h; exact h
       · exact absurd hx (by simp)
   · exact .inl hl
theorem took_pre (w : W) (i : Nat) (res : Rf × Ou) : w.mails <+: (w.took i res).mails := by
 rw [W.took_mails]
 exact (room_pre _ _).trans (room_pre _ _)
theorem take_pre_mails {a b : List Mail} (h : a <+: b) {k : Nat} (hk : k ≤ a.length) : b.take k = a.take k := by
 obtain ⟨t, rfl⟩ := h
 rw [List.take_append_of_le_length hk]
theorem FI.step {rem : Nat} {m : Mail} {ms : List Mail} (I : WI w G nd l) (hn7 : w.n ≤ 7) (h200 : rem ≤ 200) (F : FI w (rem + 1)) (hm : w.mails = m :: ms) (hu : w.up m.to = true) (d : Nat)
 (X : Ext w.n m.to G G' (w.r m.to) (fun _ => True) True (w.heard m d)) (hmono : (w.r m.to).term ≤ (w.heard m d).1.term) (hx : m.from_ ≠ m.to → m.x.term ≤ (w.heard m d).1.term) : FI ((w.with_ ms).took m.to (w.heard m d)) rem := by
 obtain ⟨hf, ht, _, _⟩ := I.ml m (by rw [hm]; exact List.mem_cons_self ..)
 rcases F with F | F
 · exact .inl F
 by_cases hn2 : w.n < 2
 · exact .inl hn2
 right
 have hpre : ms <+: ((w.with_ ms).took m.to (w.heard m d)).mails := took_pre (w.with_ ms) m.to (w.heard m d)
 have hplen := hpre.length_le
 -- whoever was a leader of that term
 have old : ∀ i, i < w.n → (w.r i).role = 3 → w.leaders (w.r i).term = none → ((((w.with_ ms).took m.to (w.heard m d)).r i).term = (w.r i).term) →
  ∃ k, k ≤ ((w.with_ ms).took m.to (w.heard m d)).mails.length ∧ (∀ x, x ∈ ((w.with_ ms).took m.to (w.heard m d)).mails.take k → ¬ Ack i (w.r i).term x) ∧ (rem ≤ k ∨ ∀ q, q < w.n → q ≠ i → w.up q = true → (w.r i).term ≤ (((w.with_ ms).took m.to (w.heard m d)).r q).term ∨ ∃ x, x ∈ ((w.with_ ms).took m.to (w.heard m d)).mails.take k ∧ x.from_ = i ∧ x.to = q ∧ (w.r i).term ≤ x.x.term) := by
  intro i hi hr hl _
  obtain ⟨k, hk, ha, hb⟩ := F i hi hr hl
  rw [hm] at hk ha hb
  have hk1 : k - 1 ≤ ms.length := by have : (m :: ms).length = ms.length + 1 := rfl; omega
  refine ⟨k - 1, by omega, fun x hx' => ?_, ?_⟩
  · rw [take_pre_mails hpre hk1] at hx'
    exact ha x (take_tail hx')
  · rcases hb with hb | hb
    · left; omega
    · right
      intro q hq hqi hqu
      rw [take_pre_mails hpre hk1]
      by_cases e : q = m.to
      · subst e
        rw [W.took_same]
        rcases hb m.to hq hqi hqu with h | ⟨x, hx', h1, h2, h3⟩
        · left; omega
        · rcases take_head hx' with h | h
          · subst h
            left
            have := hx (by omega)
            omega
          · exact .inr ⟨x, h, h1, h2, h3⟩
      · rw [W.took_ne _ _ e]
        rcases hb q hq hqi hqu with h | ⟨x, hx', h1, h2, h3⟩
        · exact .inl h
        · rcases take_head hx' with h | h
          · subst h; exact absurd h2.symm e
          · exact .inr ⟨x, h, h1, h2, h3⟩
 intro i hi hr hl
 by_cases e : i = m.to
 · subst e
   have es := W.took_same (w.with_ ms) m.to (w.heard m d)
   rw [es] at hr hl
   rcases X.el hr with ⟨a, b⟩ | a | ⟨_, a, told⟩
   · have := old m.to hi a (by rw [b]; exact hl) (by rw [es]; exact b.symm)
     rw [es, ← b]
     exact this
   · exact absurd a hn2
   · rw [es]
     refine ⟨_, Nat.le_refl _, fun x hx' hack => ?_, ?_⟩
     · rw [List.take_length, W.took_mails] at hx'
       have hfrom : x ∈ ms := by
        rcases mem_room hx' with h | h
        · rcases mem_room h with h | h
          · exact h
          · obtain ⟨p, _, rfl⟩ := List.mem_map.1 h
            exact absurd rfl hack.1
        · obtain ⟨p, _, rfl⟩ := List.mem_map.1 h
          exact absurd rfl hack.1
       have hok := (I.ml x (by rw [hm]; exact List.mem_cons_of_mem _ hfrom)).2.2.1
       have := (hok.added hack.2.1 hack.2.2.1).1
       rw [hack.2.2.2] at this
       exact this a
     · by_cases hrem : rem ≤ ((w.with_ ms).took m.to (w.heard m d)).mails.length
       · exact .inl hrem
       · right
         intro q hq hqi hqu
         right
         rw [List.take_length, W.took_mails]
         have hcnt := X.cnt
         have e1 : (w.with_ ms).mails = ms := rfl
         have l1 : (W.sends m.to (w.heard m d).2).length = (w.heard m d).2.send.length := List.length_map ..
         have l2 : (W.needs m.to (w.heard m d).1 (w.heard m d).2).length = (w.heard m d).2.need.length := List.length_map ..
         rw [e1, room_all (ms := ms) (by rw [l1]; omega), room_all (by rw [List.length_append, l1, l2]; omega)]
         rcases told q hq hqi with h | ⟨p, hp, h1, h2⟩
         · exact ⟨_, List.mem_append.2 (.inr (List.mem_map.2 ⟨q, h, rfl⟩)), rfl, rfl, Nat.le_refl _⟩
         · exact ⟨_, List.mem_append.2 (.inl (List.mem_append.2 (.inr (List.mem_map.2 ⟨p, hp, rfl⟩)))), rfl, h1, by show _ ≤ p.2.term; rw [h2]; exact Nat.le_refl _⟩
 · have es := W.took_ne (w.with_ ms) (w.heard m d) e
   have es' : ((w.with_ ms).took m.to (w.heard m d)).r i = w.r i := es
   rw [es'] at hr hl ⊢
   exact old i hi hr hl (by rw [es'])
theorem FI.skip {rem : Nat} {m : Mail} {ms : List Mail} (F : FI w (rem + 1)) (hm : w.mails = m :: ms) (hu : m.to < w.n → w.up m.to ≠ true) : FI (w.with_ ms) rem := by
 rcases F with F | F
 · exact .inl F
 right
 intro i hi hr hl
 obtain ⟨k, hk, ha, hb⟩ := F i hi hr hl
 rw [hm] at hk ha hb
 have hk1 : k - 1 ≤ ms.length := by have : (m :: ms).length = ms.length + 1 := rfl; omega
 refine ⟨k - 1, hk1, fun x hx' => ha x (take_tail hx'), ?_⟩
 rcases hb with hb | hb
 · left; omega
 · right
   intro q hq hqi hqu
   rcases hb q hq hqi hqu with h | ⟨x, hx', h1, h2, h3⟩
   · exact .inl h
   · rcases take_head hx' with h | h
     · subst h
       subst h2
       exact absurd hqu (hu hq)
     · exact .inr ⟨x, h, h1, h2, h3⟩
theorem heard_terms (w : W) (m : Mail) (d : Nat) : (w.r m.to).term ≤ (w.heard m d).1.term ∧ (m.from_ ≠ m.to → m.x.term ≤ (w.heard m d).1.term) := by
 unfold W.heard
 by_cases e : m.from_ = m.to
 · rw [if_pos e]; exact ⟨Nat.le_refl _, fun h => absurd e h⟩
 · rw [if_neg e]
   obtain ⟨_, a2, _⟩ := (w.r m.to).hear_all m.from_ m.x d
   obtain ⟨_, b1, b2, _⟩ := (w.r m.to).up_all m.x.term d
   rw [a2]
   exact ⟨b1, fun _ => b2⟩
theorem first_ok {rem B : Nat} {m : Mail} {ms : List Mail} (F : FI w (rem + 1)) (h200 : rem ≤ 200) (hB : B + 1 < 18446744073709551615) (hm : w.mails = m :: ms) (hP : Small w B) (d : Nat) : FI ((w.with_ ms).arrive m d) rem ∧ Small ((w.with_ ms).arrive m d) (B + 1) := by
 obtain ⟨n1, n7, G, nd, l, I, Z⟩ := hP
 have hms : ∀ x, x ∈ ms → x ∈ w.mails := fun x hx => by rw [hm]; exact List.mem_cons_of_mem _ hx
 have hin : m ∈ w.mails := by rw [hm]; exact List.mem_cons_self ..
 obtain ⟨hf, ht, _, _⟩ := I.ml m hin
 unfold W.arrive
 by_cases hu : w.up m.to = true
 · rw [if_pos ⟨ht, hu⟩]
   obtain ⟨G', nd', l', I', Z', k, X⟩ := I.mail Z hB hin hms (fun a b c e f => F.head hm ht a b c e f) hu d
   obtain ⟨t1, t2⟩ := heard_terms w m d
   exact ⟨F.step I n7 h200 hm hu d X t1 t2, n1, n7, G', nd', l', I', Z'⟩
 · rw [if_neg (fun h => hu h.2)]
   exact ⟨F.skip hm (fun _ => hu), n1, n7, G, nd, l, I.with_ hms, ⟨fun T => Nat.le_succ_of_le (Z.log T), fun j hj => Nat.le_succ_of_le (Z.term j hj)⟩⟩
theorem flow_ok (dr : Nat → Nat) : ∀ (rem h : Nat) (w : W) (B : Nat), rem ≤ 200 → B + rem < 18446744073709551615 → FI w rem → Small w B → Small (w.flow dr rem h) (B + rem) := by
 intro rem
 induction rem with
 | zero => intro h w B _ _ _ hP; exact hP
 | succ rem ih =>
  intro h w B h200 hB F hP
  show Small (match w.mails with | [] => w | m :: ms => W.flow dr rem (h + 1) ((w.with_ ms).arrive m (dr h))) (B + (rem + 1))
  cases hm : w.mails with
  | nil =>
   obtain ⟨n1, n7, G, nd, l, I, Z⟩ := hP
   exact ⟨n1, n7, G, nd, l, I, ⟨fun T => Nat.le_trans (Z.log T) (by omega), fun j hj => Nat.le_trans (Z.term j hj) (by omega)⟩⟩
  | cons m ms =>
   obtain ⟨F', P'⟩ := first_ok F (by omega) (by omega) hm hP (dr h)
   rw [show B + (rem + 1) = (B + 1) + rem by omega]
   exact ih (h + 1) _ (B + 1) (by omega) (by omega) F' P'
end
end Go.Proofs.Yteellfgiejnigaa.RS
