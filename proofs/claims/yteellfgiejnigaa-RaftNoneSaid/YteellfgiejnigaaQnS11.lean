/- The world's steps: ticks, mails, in the order in which they were sent. -/
import Derived.Test.YteellfgiejnigaaQnS10
namespace Go.Proofs.Yteellfgiejnigaa.RS
set_option linter.unusedVariables false
namespace W
/-- A mail is heard: what comes of it. -/
def heard (w : W) (m : Mail) (d : Nat) : Rf × Ou := if m.from_ = m.to then (w.r m.to, Ou.none) else (w.r m.to).hear m.from_ m.x d
def arrive (w : W) (m : Mail) (d : Nat) : W := if m.to < w.n ∧ w.up m.to = true then w.took m.to (w.heard m d) else w
def tickOne (w : W) (i d : Nat) : W := if w.up i = true then w.took i ((w.r i).tick d) else w
def with_ (w : W) (ms : List Mail) : W := { w with mails := ms }
/-- Ticks of those from an index on: as many. -/
def ticks (dr : Nat → Nat) : Nat → Nat → W → W
  | 0, _, w => w
  | k + 1, h, w => ticks dr k (h + 1) (w.tickOne h (dr h))
/-- Mails arrive, at most so many. -/
def flow (dr : Nat → Nat) : Nat → Nat → W → W
  | 0, _, w => w
  | rem + 1, h, w => match w.mails with
    | [] => w
    | m :: ms => flow dr rem (h + 1) ((w.with_ ms).arrive m (dr h))
end W
/-- Sizes. -/
structure Sz (w : W) (G : Gh) (B : Nat) : Prop where
  log : ∀ T, (G.LL T).length ≤ B
  term : ∀ i, i < w.n → (w.r i).term ≤ B
def Small (w : W) (B : Nat) : Prop := 1 ≤ w.n ∧ w.n ≤ 7 ∧ ∃ G nd l, WI w G nd l ∧ Sz w G B
/-- All leaders were seen, but for one alone. -/
def Seen (w : W) : Prop := w.n < 2 ∨ ∀ i, i < w.n → (w.r i).role = 3 → w.leaders (w.r i).term ≠ none
def Ack (i T : Nat) (m : Mail) : Prop := m.from_ ≠ i ∧ m.x.kind = 6 ∧ m.x.yes = true ∧ m.x.term = T
/-- An unseen leader: nobody's answer comes ahead of what it has sent to all. -/
def FI (w : W) (rem : Nat) : Prop := w.n < 2 ∨ ∀ i, i < w.n → (w.r i).role = 3 → w.leaders (w.r i).term = none →
  ∃ k, k ≤ w.mails.length ∧ (∀ m, m ∈ w.mails.take k → ¬ Ack i (w.r i).term m) ∧ (rem ≤ k ∨ ∀ q, q < w.n → q ≠ i → w.up q = true → (w.r i).term ≤ (w.r q).term ∨ ∃ m, m ∈ w.mails.take k ∧ m.from_ = i ∧ m.to = q ∧ (w.r i).term ≤ m.x.term)
theorem Seen.fi {w : W} (h : Seen w) (rem : Nat) : FI w rem := by
  rcases h with h | h
  · exact .inl h
  · exact .inr fun i hi hr hl => absurd hl (h i hi hr)
section
variable {w : W} {G G' : Gh} {nd nd' : Nat → Nd} {l l' : Nat → Log} {i : Nat}
theorem WI.with_ (I : WI w G nd l) {ms : List Mail} (h : ∀ m, m ∈ ms → m ∈ w.mails) : WI (w.with_ ms) G nd l :=
  ⟨I.inv, I.st, fun m hm => I.ml m (h m hm), I.bs, I.dn, I.cm, I.kk, I.ls⟩
theorem took_sz {res : Rf × Ou} {c : Nat → Prop} {e : Prop} {B : Nat} (Z : Sz w G B) (X : Ext w.n i G G' (w.r i) c e res) (ht : res.1.term ≤ B + 1) : Sz (w.took i res) G' (B + 1) := by
  refine ⟨fun T => X.sz B Z.log T, fun j hj => ?_⟩
  by_cases h : j = i
  · subst h; rw [W.took_same]; exact ht
  · rw [W.took_ne _ _ h]; exact Nat.le_succ_of_le (Z.term j hj)
/-- A tick. -/
theorem WI.tick {B : Nat} (I : WI w G nd l) (Z : Sz w G B) (hB : B + 1 < 18446744073709551615) (hS : Seen w) (hi : i < w.n) (hu : w.up i = true) (d : Nat) :
    ∃ G' nd' l', WI (w.took i ((w.r i).tick d)) G' nd' l' ∧ Sz (w.took i ((w.r i).tick d)) G' (B + 1) ∧ Seen (w.took i ((w.r i).tick d)) := by
  obtain ⟨t1, t2, t3, t4⟩ := (w.r i).tick_all d
  have hT := Z.term i hi
  have hf := (I.st i hi).tick (by omega) d
  obtain ⟨G', nd', l', I', k, X⟩ := I.took hi hf (by rw [t1]; exact I.bs i hi) (fun h => by rw [hu] at h; cases h) t4 (fun _ _ h => h.elim)
  refine ⟨G', nd', l', I', took_sz Z X (by omega), ?_⟩
  rcases hS with h | h
  · exact .inl h
  · by_cases hn : w.n < 2
    · exact .inl hn
    · right
      intro j hj hr
      by_cases e : j = i
      · subst e
        rw [W.took_same] at hr ⊢
        rcases X.el hr with ⟨a, b⟩ | a | a
        · rw [← b]; exact h j hj a
        · exact absurd a hn
        · exact a.1.elim
      · rw [W.took_ne _ _ e] at hr ⊢; exact h j hj hr
theorem ticks_ok (dr : Nat → Nat) : ∀ (k h : Nat) (w : W) (B : Nat), h + k ≤ w.n → B + k < 18446744073709551615 → Seen w → Small w B → Seen (w.ticks dr k h) ∧ Small (w.ticks dr k h) (B + k) := by
  intro k
  induction k with
  | zero => intro h w B _ _ hS hP; exact ⟨hS, hP⟩
  | succ k ih =>
    intro h w B hk hB hS hP
    obtain ⟨n1, n7, G, nd, l, I, Z⟩ := hP
    show Seen (W.ticks dr k (h + 1) (w.tickOne h (dr h))) ∧ Small (W.ticks dr k (h + 1) (w.tickOne h (dr h))) (B + (k + 1))
    rw [show B + (k + 1) = (B + 1) + k by omega]
    unfold W.tickOne
    by_cases hu : w.up h = true
    · rw [if_pos hu]
      obtain ⟨G', nd', l', I', Z', S'⟩ := I.tick Z (by omega) hS (by omega) hu (dr h)
      exact ih (h + 1) _ (B + 1) (by show h + 1 + k ≤ w.n; omega) (by omega) S' ⟨n1, n7, G', nd', l', I', Z'⟩
    · rw [if_neg hu]
      exact ih (h + 1) w (B + 1) (by omega) (by omega) hS ⟨n1, n7, G, nd, l, I, ⟨fun T => Nat.le_succ_of_le (Z.log T), fun j hj => Nat.le_succ_of_le (Z.term j hj)⟩⟩
/-- A mail arrives; where unseen leaders are, in its order. -/
theorem WI.mail {B : Nat} (I : WI w G nd l) (Z : Sz w G B) (hB : B + 1 < 18446744073709551615) {m : Mail} (hm : m ∈ w.mails) {ms : List Mail} (hms : ∀ m, m ∈ ms → m ∈ w.mails)
    (hc : m.from_ ≠ m.to → m.x.kind = 6 → m.x.yes = true → (w.r m.to).role = 3 → (w.r m.to).term = m.x.term → w.n < 2 ∨ w.leaders m.x.term ≠ none ∨ ∀ j, j < w.n → w.up j = true → j ≠ m.to → m.x.term ≤ (w.r j).term) (hu : w.up m.to = true) (d : Nat) :
    ∃ G' nd' l', WI ((w.with_ ms).took m.to (w.heard m d)) G' nd' l' ∧ Sz ((w.with_ ms).took m.to (w.heard m d)) G' (B + 1) ∧ Go w.n m.to G nd G' nd' ∧ Ext w.n m.to G G' (w.r m.to) (fun _ => True) True (w.heard m d) := by
  obtain ⟨hf, ht, hok, h7⟩ := I.ml m hm
  have I1 := I.with_ hms
  have Z1 : Sz (w.with_ ms) G B := ⟨Z.log, Z.term⟩
  have hle := hok.le
  have hsf := (I.st m.from_ hf).eq
  have hxB : m.x.term ≤ B := by
    have := Z.term m.from_ hf
    rw [hsf] at hle
    exact Nat.le_trans hle this
  have hres : Fine w.n m.to G nd (w.r m.to) (fun T => m.from_ ≠ m.to ∧ m.x.kind = 6 ∧ m.x.yes = true ∧ m.x.term = T ∧ (w.r m.to).role = 3 ∧ (w.r m.to).term = T) True (w.heard m d) ∧ (w.heard m d).1.base ≤ w.cm.length ∧ (w.heard m d).1.term ≤ B + 1 ∧ (∀ p, p ∈ (w.heard m d).2.send → p.2.kind ≠ 7) := by
    have hT := Z.term m.to ht
    unfold W.heard
    by_cases e : m.from_ = m.to
    · rw [if_pos e]
      exact ⟨⟨G, nd, _, I.st _ ht, Go.refl .., OutOk.none_ .., Ext.plain rfl rfl (fun h => ⟨h, rfl⟩) (Nat.zero_le _)⟩, I.bs _ ht, by show (w.r m.to).term ≤ B + 1; omega, Rf.no7_none⟩
    · rw [if_neg e]
      obtain ⟨a1, a2, a3⟩ := (w.r m.to).hear_all m.from_ m.x d
      have hup := ((w.r m.to).up_all m.x.term d).2.2.2
      refine ⟨?_, ?_, by rw [a2]; omega, a3⟩
      · have := (I.st _ ht).hear hf e hok (fun T => by have := Z.log T; omega) d
        obtain ⟨G', nd', li, S', k, O, X⟩ := this
        refine ⟨G', nd', li, S', k, O, fun T hT => ?_, X.sz, X.el, X.cnt⟩
        rcases X.k T hT with h | ⟨h1, h2, h3⟩
        · exact .inl h
        · exact .inr ⟨h1, h2, h3.imp id fun h => ⟨e, h⟩⟩
      · rcases a1 with h | ⟨h, h'⟩
        · rw [h]; exact I.bs _ ht
        · rw [h']; exact h7 h
  obtain ⟨h1, h2, h3, h4⟩ := hres
  have : ∃ G' nd' l', WI ((w.with_ ms).took m.to (w.heard m d)) G' nd' l' ∧ Go w.n m.to G nd G' nd' ∧ Ext w.n m.to G G' (w.r m.to) _ True (w.heard m d) :=
    I1.took (i := m.to) (res := w.heard m d) ht h1 h2 (fun h => by rw [show (w.with_ ms).up m.to = w.up m.to from rfl, hu] at h; cases h) h4 (fun T hT hcc => by
      obtain ⟨c1, c2, c3, c4, c5, c6⟩ := hcc
      have := hc c1 c2 c3 c5 (c6.trans c4.symm)
      rw [c4] at this
      rcases this with h | h | h
      · exact .inr fun j hj _ hne => absurd hne (by have hj' : j < w.n := hj; omega)
      · exact .inl h
      · exact .inr h)
  obtain ⟨G', nd', l', I', k, X⟩ := this
  refine ⟨G', nd', l', I', took_sz (w := w.with_ ms) Z1 X h3, k, fun T hT => ?_, X.sz, X.el, X.cnt⟩
  exact (X.k T hT).imp id fun h => ⟨h.1, h.2.1, .inr trivial⟩
end
end Go.Proofs.Yteellfgiejnigaa.RS
