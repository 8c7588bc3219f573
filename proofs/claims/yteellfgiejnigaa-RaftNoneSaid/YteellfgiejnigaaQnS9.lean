/- Nodes among each other: terms that are over; the world, a step of a node in it. -/
import Derived.Test.YteellfgiejnigaaQnS8
namespace Go.Proofs.Yteellfgiejnigaa.RS
set_option linter.unusedVariables false
section
variable {n : Nat} {G G' : Gh} {nd nd' : Nat → Nd}
/-- No leader of an elder term is there, and none will be. -/
def Dead (n : Nat) (G : Gh) (nd : Nat → Nd) (T : Nat) : Prop :=
  ∃ p, Maj n p ∧ (∀ q, q < n → p q = true → T ≤ (nd q).term) ∧ ∀ i, i < n → (nd i).term < T → (nd i).role ≠ 3 ∧ ((nd i).role = 2 → ∀ q, q < n → p q = true → G.V (nd i).term q ≠ some i)
theorem Inv.dead (I : Inv n G nd) {T : Nat} (hL : G.Ld T ≠ none) (h : ∀ i, i < n → (nd i).term < T → (nd i).role ≠ 3 ∧ (nd i).role ≠ 2) : Dead n G nd T := by
  obtain ⟨c, hc⟩ := Option.ne_none_iff_exists'.1 hL
  obtain ⟨p, hp, hq⟩ := I.quo T c hc
  exact ⟨p, hp, fun q hqn hpq => (I.votes T q c hqn (hq q hqn hpq).1).2.1, fun i hi ht => ⟨(h i hi ht).1, fun e => absurd e (h i hi ht).2⟩⟩
theorem Dead.keep {T i0 : Nat} (D : Dead n G nd T) (I : Inv n G nd) (I' : Inv n G' nd') (k : Go n i0 G nd G' nd') : Dead n G' nd' T := by
  obtain ⟨p, hp, h1, h2⟩ := D
  have frozen : ∀ q U, q < n → p q = true → U < T → G'.V U q = G.V U q := fun q U hq hpq hU => k.v U q hq (Nat.lt_of_lt_of_le hU (h1 q hq hpq))
  refine ⟨p, hp, fun q hq hpq => Nat.le_trans (h1 q hq hpq) (k.m.term q hq), fun i hi ht => ?_⟩
  have tm := k.m.term i hi
  obtain ⟨a, b⟩ := h2 i hi (by omega)
  have late : (nd i).term < (nd' i).term → ∀ q, q < n → p q = true → G'.V (nd' i).term q ≠ some i := by
    intro hlt q hq hpq e
    rw [frozen q _ hq hpq ht] at e
    have := (I.votes _ q i hq e).2.2
    omega
  have both : (nd' i).role = 2 → ∀ q, q < n → p q = true → G'.V (nd' i).term q ≠ some i := by
    intro h q hq hpq
    by_cases e : (nd' i).term = (nd i).term
    · rw [frozen q _ hq hpq ht, e]
      exact b (k.m.cand i hi e h).1 q hq hpq
    · exact late (by omega) q hq hpq
  refine ⟨fun h => ?_, both⟩
  obtain ⟨p', hp', hq'⟩ := I'.quo _ _ (I'.lead i hi h).1
  obtain ⟨q, hq, e1, e2⟩ := maj_meet hp hp'
  have hv := (hq' q hq e2).1
  by_cases e : (nd' i).term = (nd i).term
  · rcases k.m.lead i hi e h with r | r
    · rw [frozen q _ hq e1 ht, e] at hv
      exact b r q hq e1 hv
    · exact a r
  · exact late (by omega) q hq e1 hv
end
/-! ### The world -/
structure Mail where
  from_ : Nat
  to : Nat
  x : Nt
structure W where
  n : Nat
  T : Nat
  r : Nat → Rf
  up : Nat → Bool
  mails : List Mail
  leaders : Nat → Option Nat
  cm : Log
/-- As many as there is room for. -/
def room (ms l : List Mail) : List Mail := ms ++ l.take (600 - ms.length)
theorem room_pre (ms l : List Mail) : ms <+: room ms l := List.prefix_append _ _
theorem mem_room {ms l : List Mail} {m : Mail} (h : m ∈ room ms l) : m ∈ ms ∨ m ∈ l := (List.mem_append.1 h).imp id List.mem_of_mem_take
theorem room_all {ms l : List Mail} (h : ms.length + l.length ≤ 600) : room ms l = ms ++ l := by
  unfold room
  rw [List.take_of_length_le (by omega)]
def shotN (r : Rf) : Nt := { Rf.nt 7 with term := r.term, index := r.base, at_ := r.bt }
namespace W
def set (w : W) (i : Nat) (r : Rf) : W := { w with r := fun j => if j = i then r else w.r j }
def sends (i : Nat) (o : Ou) : List Mail := o.send.map fun p => ⟨i, p.1, p.2⟩
def needs (i : Nat) (r : Rf) (o : Ou) : List Mail := o.need.map fun k => ⟨i, k, shotN r⟩
def sent (w : W) (i : Nat) (o : Ou) : W := { w with mails := room (room w.mails (sends i o)) (needs i (w.r i) o) }
/-- A step of a node is taken. -/
def took (w : W) (i : Nat) (res : Rf × Ou) : W := (w.set i res.1).sent i res.2
theorem took_mails (w : W) (i : Nat) (res : Rf × Ou) : (w.took i res).mails = room (room w.mails (sends i res.2)) (needs i res.1 res.2) := by
  show room (room w.mails (sends i res.2)) (needs i (if i = i then res.1 else w.r i) res.2) = _
  rw [if_pos rfl]
theorem took_same (w : W) (i : Nat) (res : Rf × Ou) : (w.took i res).r i = res.1 := by
  show (if i = i then res.1 else w.r i) = _
  rw [if_pos rfl]
theorem took_ne (w : W) {i j : Nat} (res : Rf × Ou) (h : j ≠ i) : (w.took i res).r j = w.r j := by
  show (if j = i then res.1 else w.r j) = _
  rw [if_neg h]
end W
/-- What holds among nodes, whatever happens. -/
structure WI (w : W) (G : Gh) (nd : Nat → Nd) (l : Nat → Log) : Prop where
  inv : Inv w.n G nd
  st : ∀ i, i < w.n → St w.n G nd i (w.r i) (l i)
  ml : ∀ m, m ∈ w.mails → m.from_ < w.n ∧ m.to < w.n ∧ MsgOk w.n G nd m.from_ m.to m.x ∧ (m.x.kind = 7 → m.x.index ≤ w.cm.length)
  bs : ∀ i, i < w.n → (w.r i).base ≤ w.cm.length
  dn : ∀ i, i < w.n → w.up i = false → (w.r i).role = 0
  cm : ∃ U, ComC w.n G U w.cm
  kk : ∀ T, G.K T → w.leaders T ≠ none ∨ Dead w.n G nd T
  ls : ∀ T c, w.leaders T = some c → G.Ld T = some c
section
variable {w : W} {G G' : Gh} {nd nd' : Nat → Nd} {l l' : Nat → Log} {i : Nat} {res : Rf × Ou} {c : Nat → Prop} {e : Prop}
/-- What a leader's base is, is committed; so is the snapshot that is asked for. -/
theorem St.shot {n : Nat} {r : Rf} {l : Log} (S : St n G nd i r l) (hr : r.role = 3) {t : Nat} : MsgOk n G nd i t (shotN r) := by
  obtain ⟨l1, l2, _, _⟩ := S.inv.lead i S.lt (by rw [S.eq]; exact hr)
  rw [S.eq] at l1 l2
  have l2' : l = G.LL r.term := l2
  have hcom := S.com
  have hb := S.bc
  refine ⟨S.lt, by rw [S.eq]; exact Nat.le_refl _, fun h => absurd h (by show ¬ (7 : Nat) = 3; decide), fun h _ => absurd h (by show ¬ (7 : Nat) = 4; decide), fun h => absurd h (by show ¬ (7 : Nat) = 5; decide), fun h _ => absurd h (by show ¬ (7 : Nat) = 6; decide), fun _ => ?_⟩
  show G.Ld r.term = some i ∧ r.base ≤ (G.LL r.term).length ∧ r.bt = tAt (G.LL r.term) r.base ∧ ComC n G r.term ((G.LL r.term).take r.base)
  rw [← l2']
  exact ⟨l1, S.trk.base, S.trk.term, hcom.2.of_pre (take_take_pre _ hb)⟩
theorem St.other {n i0 j : Nat} {r : Rf} {l : Log} (S : St n G nd j r l) (I' : Inv n G' nd') (k : Go n i0 G nd G' nd') (h : j ≠ i0) : St n G' nd' j r l :=
  ⟨I', (k.f j h).trans S.eq, S.lt, S.rn, S.id, S.whoR, S.trk, S.bc, S.next⟩
/-- A node takes a step. -/
theorem WI.took (I : WI w G nd l) (hi : i < w.n) (hf : Fine w.n i G nd (w.r i) c e res) (hb : res.1.base ≤ w.cm.length) (hup : w.up i = false → res.1.role = 0) (h7 : ∀ p, p ∈ res.2.send → p.2.kind ≠ 7)
    (hc : ∀ T, T = res.1.term → c T → w.leaders T ≠ none ∨ ∀ j, j < w.n → w.up j = true → j ≠ i → T ≤ (w.r j).term) :
    ∃ G' nd' l', WI (w.took i res) G' nd' l' ∧ Go w.n i G nd G' nd' ∧ Ext w.n i G G' (w.r i) c e res := by
  obtain ⟨G', nd', li, S', k, O, X⟩ := hf
  have I' := S'.inv
  refine ⟨G', nd', fun j => if j = i then li else l j, ⟨I', fun j hj => ?_, fun m hm => ?_, fun j hj => ?_, fun j hj hd => ?_, ?_, fun T hT => ?_, fun T d hd => k.g.Ld _ _ (I.ls T d hd)⟩, k, X⟩
  · by_cases h : j = i
    · subst h
      rw [W.took_same]
      show St w.n G' nd' j res.1 (if j = j then li else l j)
      rw [if_pos rfl]; exact S'
    · rw [W.took_ne _ _ h]
      show St w.n G' nd' j (w.r j) (if j = i then li else l j)
      rw [if_neg h]; exact (I.st j hj).other I' k h
  · rw [W.took_mails] at hm
    rcases mem_room hm with hm | hm
    · rcases mem_room hm with hm | hm
      · obtain ⟨a, b, m1, d⟩ := I.ml m hm
        exact ⟨a, b, m1.keep I.inv k.g k.m, d⟩
      · obtain ⟨p, hp, rfl⟩ := List.mem_map.1 hm
        obtain ⟨a, b⟩ := O.send p hp
        exact ⟨hi, a, b, fun h => absurd h (h7 p hp)⟩
    · obtain ⟨q, hq, rfl⟩ := List.mem_map.1 hm
      have hr := O.lead (fun e => by rw [e] at hq; cases hq)
      exact ⟨hi, O.need q hq, S'.shot hr, fun _ => hb⟩
  · by_cases h : j = i
    · subst h; rw [W.took_same]; exact hb
    · rw [W.took_ne _ _ h]; exact I.bs j hj
  · by_cases h : j = i
    · subst h; rw [W.took_same]; exact hup hd
    · rw [W.took_ne _ _ h]; exact I.dn j hj hd
  · obtain ⟨U, hU⟩ := I.cm
    exact ⟨U, hU.gle k.g⟩
  · rcases X.k T hT with h | ⟨h1, h2, h3⟩
    · exact (I.kk T h).imp id fun D => D.keep I.inv I' k
    · have hti : (nd' i).term = T := by rw [S'.eq, h1]; rfl
      have hri : (nd' i).role = 3 := by rw [S'.eq]; exact h2
      have hL : G'.Ld T ≠ none := by
        have := (I'.lead i hi hri).1
        rw [hti] at this
        rw [this]; simp
      have dead : (∀ j, j < w.n → w.up j = true → j ≠ i → T ≤ (w.r j).term) → Dead w.n G' nd' T := by
        intro h
        refine I'.dead hL fun j hj ht => ?_
        have hne : j ≠ i := fun e => by subst e; omega
        rw [k.f j hne, (I.st j hj).eq] at ht ⊢
        cases hu : w.up j with
        | true => exact absurd (show (w.r j).term < T from ht) (by have := h j hj hu hne; omega)
        | false =>
          have := I.dn j hj hu
          refine ⟨?_, ?_⟩
          · show ¬ (w.r j).role = 3
            omega
          · show ¬ (w.r j).role = 2
            omega
      rcases h3 with h3 | h3
      · exact .inr (dead fun j hj _ hne => absurd hne (by omega))
      · exact (hc T h1 h3).imp id dead
end
end Go.Proofs.Yteellfgiejnigaa.RS
