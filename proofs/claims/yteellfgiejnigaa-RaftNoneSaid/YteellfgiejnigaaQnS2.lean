/- Agreement among nodes, plain: what a change keeps; the mails. -/
import Derived.Test.YteellfgiejnigaaQnS1
namespace Go.Proofs.Yteellfgiejnigaa.RS
set_option linter.unusedVariables false
/-- The kept things grow. -/
structure Gle (G G' : Gh) : Prop where
  LL : ∀ T, G.LL T <+: G'.LL T
  CL : ∀ T, G.Ld T ≠ none → G'.CL T = G.CL T
  Ld : ∀ T c, G.Ld T = some c → G'.Ld T = some c
  V : ∀ T q c, G.V T q = some c → G'.V T q = some c
  VL : ∀ T q X, G.VL T q = some X → G'.VL T q = some X
  A : ∀ T q, G.A T q ≤ G'.A T q
  K : ∀ T, G.K T → G'.K T
theorem Gle.refl (G : Gh) : Gle G G := ⟨fun _ => List.prefix_rfl, fun _ _ => rfl, fun _ _ h => h, fun _ _ _ h => h, fun _ _ _ h => h, fun _ _ => Nat.le_refl _, fun _ h => h⟩
theorem Gle.trans {G G' G'' : Gh} (h : Gle G G') (k : Gle G' G'') : Gle G G'' := by
  refine ⟨fun T => (h.LL T).trans (k.LL T), fun T hT => ?_, fun T c e => k.Ld T c (h.Ld T c e), fun T q c e => k.V T q c (h.V T q c e), fun T q X e => k.VL T q X (h.VL T q X e), fun T q => Nat.le_trans (h.A T q) (k.A T q), fun T e => k.K T (h.K T e)⟩
  obtain ⟨c, hc⟩ := Option.ne_none_iff_exists'.1 hT
  rw [k.CL T (by rw [h.Ld T c hc]; simp), h.CL T hT]
section
variable {n : Nat} {G G' : Gh} {nd nd' : Nat → Nd}
theorem Gle.take (h : Gle G G') {T k : Nat} (hk : k ≤ (G.LL T).length) : (G'.LL T).take k = (G.LL T).take k := take_of_pre (h.LL T) hk
theorem Gle.tAt_ (h : Gle G G') {T k : Nat} (hk : k ≤ (G.LL T).length) : tAt (G'.LL T) k = tAt (G.LL T) k := (tAt_prefix (h.LL T) hk).symm
theorem Gle.led (h : Gle G G') {T : Nat} (hT : G.Ld T ≠ none) : G'.Ld T ≠ none := by
  obtain ⟨c, hc⟩ := Option.ne_none_iff_exists'.1 hT
  rw [h.Ld T c hc]; simp
theorem IsC.gle {T : Nat} {X : Log} (h : IsC n G T X) (g : Gle G G') : IsC n G' T X := by
  obtain ⟨hK, k, p, hp, ha, h1, h2, ht, rfl⟩ := h
  have := pre_len (g.LL T)
  exact ⟨g.K T hK, k, p, hp, fun q hq hpq => Nat.le_trans (ha q hq hpq) (g.A T q), h1, by omega, by rw [g.tAt_ h2]; exact ht, (g.take h2).symm⟩
theorem ComC.gle {U : Nat} {l : Log} (h : ComC n G U l) (g : Gle G G') : ComC n G' U l := by
  rcases h with h | ⟨T, X, h1, h2, h3⟩
  · exact .inl h
  · exact .inr ⟨T, X, h1, h2.gle g, h3⟩
theorem Lost.gle {T k U U' : Nat} (h : Lost G T k U) (g : Gle G G') (hk : k ≤ (G.LL T).length) (hU : U ≤ U') : Lost G' T k U' := by
  obtain ⟨T', a1, a2, a3, a4⟩ := h
  exact ⟨T', a1, by omega, g.led a3, by rw [g.take hk, g.CL T' a3]; exact a4⟩
end
def upd (nd : Nat → Nd) (i : Nat) (x : Nd) : Nat → Nd := fun j => if j = i then x else nd j
theorem upd_same (nd : Nat → Nd) (i : Nat) (x : Nd) : upd nd i x i = x := by unfold upd; rw [if_pos rfl]
theorem upd_ne (nd : Nat → Nd) {i j : Nat} (x : Nd) (h : j ≠ i) : upd nd i x j = nd j := by unfold upd; rw [if_neg h]

/-! ### Mails -/
structure Nt where
  kind : Nat
  term : Nat
  round : Nat
  index : Nat
  at_ : Nat
  commit : Nat
  yes : Bool
  list : Log
structure MsgOk (n : Nat) (G : Gh) (nd : Nat → Nd) (f t : Nat) (x : Nt) : Prop where
  from_ : f < n
  le : x.term ≤ (nd f).term
  vote : x.kind = 3 → G.V x.term f = some f ∧ ((nd f).term = x.term → (nd f).role = 2 → (nd f).log.length = x.index ∧ lastT (nd f).log = x.at_)
  voted : x.kind = 4 → x.yes = true → G.V x.term f = some t
  add : x.kind = 5 → G.Ld x.term = some f ∧ x.index + x.list.length ≤ (G.LL x.term).length ∧ x.list = ((G.LL x.term).drop x.index).take x.list.length ∧ x.at_ = tAt (G.LL x.term) x.index ∧ x.commit ≤ (G.LL x.term).length ∧ ComC n G x.term ((G.LL x.term).take x.commit)
  added : x.kind = 6 → x.yes = true → G.Ld x.term ≠ none ∧ x.index ≤ G.A x.term f
  shot : x.kind = 7 → G.Ld x.term = some f ∧ x.index ≤ (G.LL x.term).length ∧ x.at_ = tAt (G.LL x.term) x.index ∧ ComC n G x.term ((G.LL x.term).take x.index)
/-- What a change of nodes may be, for mails to stay right. -/
structure Nle (n : Nat) (nd nd' : Nat → Nd) : Prop where
  term : ∀ i, i < n → (nd i).term ≤ (nd' i).term
  cand : ∀ i, i < n → (nd' i).term = (nd i).term → (nd' i).role = 2 → (nd i).role = 2 ∧ (nd' i).log = (nd i).log
  lead : ∀ i, i < n → (nd' i).term = (nd i).term → (nd' i).role = 3 → (nd i).role = 2 ∨ (nd i).role = 3
theorem Nle.refl (n : Nat) (nd : Nat → Nd) : Nle n nd nd := ⟨fun _ _ => Nat.le_refl _, fun _ _ _ h => ⟨h, rfl⟩, fun _ _ _ h => .inr h⟩
theorem Nle.trans {n : Nat} {a b c : Nat → Nd} (h : Nle n a b) (k : Nle n b c) : Nle n a c := by
  refine ⟨fun i hi => Nat.le_trans (h.term i hi) (k.term i hi), fun i hi e r => ?_, fun i hi e r => ?_⟩
  all_goals have h1 := h.term i hi
  all_goals have h2 := k.term i hi
  · obtain ⟨r1, l1⟩ := k.cand i hi (by omega) r
    obtain ⟨r2, l2⟩ := h.cand i hi (by omega) r1
    exact ⟨r2, l1.trans l2⟩
  · rcases k.lead i hi (by omega) r with r1 | r1
    · exact .inl (h.cand i hi (by omega) r1).1
    · exact h.lead i hi (by omega) r1
theorem Nle.one {n : Nat} {nd : Nat → Nd} {i : Nat} {x : Nd} (h1 : (nd i).term ≤ x.term) (h2 : x.term = (nd i).term → x.role = 2 → (nd i).role = 2 ∧ x.log = (nd i).log) (h3 : x.term = (nd i).term → x.role = 3 → (nd i).role = 2 ∨ (nd i).role = 3) : Nle n nd (upd nd i x) := by
  refine ⟨fun j hj => ?_, fun j hj e r => ?_, fun j hj e r => ?_⟩
  · by_cases h : j = i
    · subst h; rw [upd_same]; exact h1
    · rw [upd_ne _ _ h]; exact Nat.le_refl _
  · by_cases h : j = i
    · subst h; rw [upd_same] at e r ⊢; exact h2 e r
    · rw [upd_ne _ _ h] at e r ⊢; exact ⟨r, rfl⟩
  · by_cases h : j = i
    · subst h; rw [upd_same] at e r; exact h3 e r
    · rw [upd_ne _ _ h] at r; exact .inr r
section
variable {n : Nat} {G G' : Gh} {nd nd' : Nat → Nd}
theorem MsgOk.keep (I : Inv n G nd) {f t : Nat} {x : Nt} (h : MsgOk n G nd f t x) (g : Gle G G') (m : Nle n nd nd') : MsgOk n G' nd' f t x := by
  refine ⟨h.from_, Nat.le_trans h.le (m.term f h.from_), fun k => ?_, fun k y => g.V _ _ _ (h.voted k y), fun k => ?_, fun k y => ⟨g.led (h.added k y).1, Nat.le_trans (h.added k y).2 (g.A _ _)⟩, fun k => ?_⟩
  · obtain ⟨a, b⟩ := h.vote k
    refine ⟨g.V _ _ _ a, fun e r => ?_⟩
    have h1 := m.term f h.from_
    have h2 := h.le
    obtain ⟨r1, l1⟩ := m.cand f h.from_ (by omega) r
    rw [l1]
    exact b (by omega) r1
  · obtain ⟨a1, a2, a3, a4, a5, a6⟩ := h.add k
    have hl := pre_len (g.LL x.term)
    refine ⟨g.Ld _ _ a1, by omega, ?_, by rw [g.tAt_ (by omega)]; exact a4, by omega, ?_⟩
    · rw [a3]
      obtain ⟨s, hs⟩ := g.LL x.term
      rw [← hs, List.drop_append_of_le_length (by omega)]
      rw [List.length_take, List.length_drop, Nat.min_eq_left (by omega)]
      rw [List.take_append_of_le_length (by rw [List.length_drop]; omega)]
    · rw [g.take a5]; exact a6.gle g
  · obtain ⟨a1, a2, a3, a4⟩ := h.shot k
    have hl := pre_len (g.LL x.term)
    exact ⟨g.Ld _ _ a1, by omega, by rw [g.tAt_ a2]; exact a3, by rw [g.take a2]; exact a4.gle g⟩

/-! ### Steps that leave what is kept, and the log -/
theorem Inv.same_log (I : Inv n G nd) {i : Nat} {x : Nd} (hi : i < n) (hl : x.log = (nd i).log) (ht : (nd i).term ≤ x.term) (hw : x.who = G.V x.term i)
    (h3 : x.role = 3 → (nd i).role = 3 ∧ x.term = (nd i).term ∧ ∀ q, q < n → q ≠ i → x.mt q ≤ G.A x.term q)
    (h2 : x.role = 2 → (nd i).role = 2 ∧ x.term = (nd i).term ∧ ∀ q, q < n → x.sides q = true → G.V x.term q = some i)
    (hc : x.commit ≤ x.log.length ∧ ComC n G x.term (x.log.take x.commit)) : Inv n G (upd nd i x) := by
  have tm : ∀ j, (nd j).term ≤ (upd nd i x j).term := fun j => by
    by_cases h : j = i
    · subst h; rw [upd_same]; exact ht
    · rw [upd_ne _ _ h]; exact Nat.le_refl _
  refine ⟨fun j hj => ?_, fun j hj k hk => ?_, I.ld0, fun T c h => ?_, fun T j c hj h => ?_, fun j hj => ?_, I.quo, I.vlg, fun T q c hq h h0 => ?_, fun T q hq => ?_, fun T q k hq h1 hk => ?_, I.vkeep, fun j hj h => ?_, fun j hj h => ?_, fun j hj => ?_⟩
  · by_cases h : j = i
    · subst h; rw [upd_same, hl]; exact I.good j hj
    · rw [upd_ne _ _ h]; exact I.good j hj
  · by_cases h : j = i
    · subst h; rw [upd_same] at hk ⊢; rw [hl] at hk ⊢; exact Nat.le_trans (I.below j hj k hk) ht
    · rw [upd_ne _ _ h] at hk ⊢; exact I.below j hj k hk
  · obtain ⟨a1, a2, a3⟩ := I.ldc T c h
    exact ⟨a1, Nat.le_trans a2 (tm c), a3⟩
  · obtain ⟨a1, a2, a3⟩ := I.votes T j c hj h
    exact ⟨a1, Nat.le_trans a2 (tm j), Nat.le_trans a3 (tm c)⟩
  · by_cases h : j = i
    · subst h; rw [upd_same]; exact hw
    · rw [upd_ne _ _ h]; exact I.who j hj
  · obtain ⟨X, a1, a2⟩ := I.vcand T q c hq h h0
    refine ⟨X, a1, fun e r => ?_⟩
    by_cases hci : c = i
    · subst hci
      rw [upd_same] at e r ⊢
      obtain ⟨r2, e2, _⟩ := h2 r
      rw [hl]
      exact a2 (by omega) r2
    · rw [upd_ne _ _ hci] at e r ⊢; exact a2 e r
  · obtain ⟨a1, a2⟩ := I.ackb T q hq
    exact ⟨a1, fun h => Nat.le_trans (a2 h) (tm q)⟩
  · have hkl := (I.ackb T q hq).1
    have := tm q
    by_cases h : q = i
    · subst h
      rw [upd_same] at this ⊢
      rw [hl]
      rcases I.keep T q k hq h1 hk with a | a
      · exact .inl a
      · exact .inr (a.gle (Gle.refl G) (by omega) (by omega))
    · rw [upd_ne _ _ h]; exact I.keep T q k hq h1 hk
  · by_cases hji : j = i
    · subst hji
      rw [upd_same] at h ⊢
      obtain ⟨r, e, m⟩ := h3 h
      obtain ⟨a1, a2, a3, a4⟩ := I.lead j hj r
      rw [hl, e]
      exact ⟨a1, a2, a3, by rw [← e]; exact m⟩
    · rw [upd_ne _ _ hji] at h ⊢; exact I.lead j hj h
  · by_cases hji : j = i
    · subst hji
      rw [upd_same] at h ⊢
      obtain ⟨r, e, m⟩ := h2 h
      obtain ⟨a1, a2, a3, a4⟩ := I.cand j hj r
      rw [hl, e]
      exact ⟨a1, a2, a3, by rw [← e]; exact m⟩
    · rw [upd_ne _ _ hji] at h ⊢; exact I.cand j hj h
  · by_cases hji : j = i
    · subst hji; rw [upd_same]; exact hc
    · rw [upd_ne _ _ hji]; exact I.com j hj
end
end Go.Proofs.Yteellfgiejnigaa.RS
