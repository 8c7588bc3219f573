/- RaftSafe: S2, S3. -/
import Derived.Test.YteellfgiejnigaaQtA02
namespace Go.Proofs.Yteellfgiejnigaa.RS
set_option linter.unusedVariables false
structure Gle (G G' : Gh) : Prop where
 LL : ∀ T, G.LL T <+: G'.LL T
 CL : ∀ T, G.Ld T ≠ none → G'.CL T = G.CL T
 Ld : ∀ T c, G.Ld T = some c → G'.Ld T = some c
 V : ∀ T q c, G.V T q = some c → G'.V T q = some c
 VL : ∀ T q X, G.VL T q = some X → G'.VL T q = some X
 A : ∀ T q, G.A T q ≤ G'.A T q
 K : ∀ T, G.K T → G'.K T
theorem Gle.refl (G : Gh) : Gle G G := ⟨fun _ => List.prefix_rfl, fun _ _ => rfl, fun _ _ h => h, fun _ _ _ h => h, fun _ _ _ h => h, fun _ _ => Nat.le_refl _, fun _ h => h⟩
theorem Gle.trans {G G' G'' : Gh} (h : Gle G G') (k : Gle G' G'') : Gle G G'' := by
 refine ⟨fun T => (h.LL T).trans (k.LL T), fun T hT => ?_, fun T c e => k.Ld T c (h.Ld T c e), fun T q c e => k.V T q c (h.V T q c e), fun T q X e => k.VL T q X (h.VL T q X e), fun T q => Nat.le_trans (h.A T q) (k.A T q), fun T e => k.K T (h.K T e)⟩
 obtain ⟨c, hc⟩ := Option.ne_none_iff_exists'.1 hT
 rw [k.CL T (by rw [h.Ld T c hc]; simp), h.CL T hT]
section
variable {n : Nat} {G G' : Gh} {nd nd' : Nat → Nd}
theorem Gle.take (h : Gle G G') {T k : Nat} (hk : k ≤ (G.LL T).length) : (G'.LL T).take k = (G.LL T).take k := take_of_pre (h.LL T) hk
theorem Gle.tAt_ (h : Gle G G') {T k : Nat} (hk : k ≤ (G.LL T).length) : tAt (G'.LL T) k = tAt (G.LL T) k := (tAt_prefix (h.LL T) hk).symm
theorem Gle.led (h : Gle G G') {T : Nat} (hT : G.Ld T ≠ none) : G'.Ld T ≠ none := by
 obtain ⟨c, hc⟩ := Option.ne_none_iff_exists'.1 hT
 rw [h.Ld T c hc]; simp
theorem IsC.gle {T : Nat} {X : Log} (h : IsC n G T X) (g : Gle G G') : IsC n G' T X := by
 obtain ⟨hK, k, p, hp, ha, h1, h2, ht, rfl⟩ := h
 have := pre_len (g.LL T)
 exact ⟨g.K T hK, k, p, hp, fun q hq hpq => Nat.le_trans (ha q hq hpq) (g.A T q), h1, by omega, by rw [g.tAt_ h2]; exact ht, (g.take h2).symm⟩
theorem ComC.gle {U : Nat} {l : Log} (h : ComC n G U l) (g : Gle G G') : ComC n G' U l := by
 rcases h with h | ⟨T, X, h1, h2, h3⟩
 · exact .inl h
 · exact .inr ⟨T, X, h1, h2.gle g, h3⟩
theorem Lost.gle {T k U U' : Nat} (h : Lost G T k U) (g : Gle G G') (hk : k ≤ (G.LL T).length) (hU : U ≤ U') : Lost G' T k U' := by
 obtain ⟨T', a1, a2, a3, a4⟩ := h
 exact ⟨T', a1, by omega, g.led a3, by rw [g.take hk, g.CL T' a3]; exact a4⟩
end
def upd (nd : Nat → Nd) (i : Nat) (x : Nd) : Nat → Nd := fun j => if j = i then x else nd j
theorem upd_same (nd : Nat → Nd) (i : Nat) (x : Nd) : upd nd i x i = x := by unfold upd; rw [if_pos rfl]
theorem upd_ne (nd : Nat → Nd) {i j : Nat} (x : Nd) (h : j ≠ i) : upd nd i x j = nd j := by unfold upd; rw [if_neg h]
structure Nt where
 kind : Nat
 term : Nat
 round : Nat
 index : Nat
 at_ : Nat
 commit : Nat
 yes : Bool
 list : Log
structure MsgOk (n : Nat) (G : Gh) (nd : Nat → Nd) (f t : Nat) (x : Nt) : Prop where
 from_ : f < n
 le : x.term ≤ (nd f).term
 vote : x.kind = 3 → G.V x.term f = some f ∧ ((nd f).term = x.term → (nd f).role = 2 → (nd f).log.length = x.index ∧ lastT (nd f).log = x.at_)
 voted : x.kind = 4 → x.yes = true → G.V x.term f = some t
 add : x.kind = 5 → G.Ld x.term = some f ∧ x.index + x.list.length ≤ (G.LL x.term).length ∧ x.list = ((G.LL x.term).drop x.index).take x.list.length ∧ x.at_ = tAt (G.LL x.term) x.index ∧ x.commit ≤ (G.LL x.term).length ∧ ComC n G x.term ((G.LL x.term).take x.commit)
 added : x.kind = 6 → x.yes = true → G.Ld x.term ≠ none ∧ x.index ≤ G.A x.term f
 shot : x.kind = 7 → G.Ld x.term = some f ∧ x.index ≤ (G.LL x.term).length ∧ x.at_ = tAt (G.LL x.term) x.index ∧ ComC n G x.term ((G.LL x.term).take x.index)
structure Nle (n : Nat) (nd nd' : Nat → Nd) : Prop where
 term : ∀ i, i < n → (nd i).term ≤ (nd' i).term
 cand : ∀ i, i < n → (nd' i).term = (nd i).term → (nd' i).role = 2 → (nd i).role = 2 ∧ (nd' i).log = (nd i).log
 lead : ∀ i, i < n → (nd' i).term = (nd i).term → (nd' i).role = 3 → (nd i).role = 2 ∨ (nd i).role = 3
theorem Nle.refl (n : Nat) (nd : Nat → Nd) : Nle n nd nd := ⟨fun _ _ => Nat.le_refl _, fun _ _ _ h => ⟨h, rfl⟩, fun _ _ _ h => .inr h⟩
theorem Nle.trans {n : Nat} {a b c : Nat → Nd} (h : Nle n a b) (k : Nle n b c) : Nle n a c := by
 refine ⟨fun i hi => Nat.le_trans (h.term i hi) (k.term i hi), fun i hi e r => ?_, fun i hi e r => ?_⟩
 all_goals have h1 := h.term i hi
 all_goals have h2 := k.term i hi
 · obtain ⟨r1, l1⟩ := k.cand i hi (by omega) r
   obtain ⟨r2, l2⟩ := h.cand i hi (by omega) r1
   exact ⟨r2, l1.trans l2⟩
 · rcases k.lead i hi (by omega) r with r1 | r1
   · exact .inl (h.cand i hi (by omega) r1).1
   · exact h.lead i hi (by omega) r1
theorem Nle.one {n : Nat} {nd : Nat → Nd} {i : Nat} {x : Nd} (h1 : (nd i).term ≤ x.term) (h2 : x.term = (nd i).term → x.role = 2 → (nd i).role = 2 ∧ x.log = (nd i).log) (h3 : x.term = (nd i).term → x.role = 3 → (nd i).role = 2 ∨ (nd i).role = 3) : Nle n nd (upd nd i x) := by
 refine ⟨fun j hj => ?_, fun j hj e r => ?_, fun j hj e r => ?_⟩
 · by_cases h : j = i
   · subst h; rw [upd_same]; exact h1
   · rw [upd_ne _ _ h]; exact Nat.le_refl _
 · by_cases h : j = i
   · subst h; rw [upd_same] at e r ⊢; exact h2 e r
   · rw [upd_ne _ _ h] at e r ⊢; exact ⟨r, rfl⟩
 · by_cases h : j = i
   · subst h; rw [upd_same] at e r; exact h3 e r
   · rw [upd_ne _ _ h] at r; exact .inr r
section
variable {n : Nat} {G G' : Gh} {nd nd' : Nat → Nd}
theorem MsgOk.keep (I : Inv n G nd) {f t : Nat} {x : Nt} (h : MsgOk n G nd f t x) (g : Gle G G') (m : Nle n nd nd') : MsgOk n G' nd' f t x := by
 refine ⟨h.from_, Nat.le_trans h.le (m.term f h.from_), fun k => ?_, fun k y => g.V _ _ _ (h.voted k y), fun k => ?_, fun k y => ⟨g.led (h.added k y).1, Nat.le_trans (h.added k y).2 (g.A _ _)⟩, fun k => ?_⟩
 · obtain ⟨a, b⟩ := h.vote k
   refine ⟨g.V _ _ _ a, fun e r => ?_⟩
   have h1 := m.term f h.from_
   have h2 := h.le
   obtain ⟨r1, l1⟩ := m.cand f h.from_ (by omega) r
   rw [l1]
   exact b (by omega) r1
 · obtain ⟨a1, a2, a3, a4, a5, a6⟩ := h.add k
   have hl := pre_len (g.LL x.term)
   refine ⟨g.Ld _ _ a1, by omega, ?_, by rw [g.tAt_ (by omega)]; exact a4, by omega, ?_⟩
   · rw [a3]
     obtain ⟨s, hs⟩ := g.LL x.term
     rw [← hs, List.drop_append_of_le_length (by omega)]
     rw [List.length_take, List.length_drop, Nat.min_eq_left (by omega)]
     rw [List.take_append_of_le_length (by rw [List.length_drop]; omega)]
   · rw [g.take a5]; exact a6.gle g
 · obtain ⟨a1, a2, a3, a4⟩ := h.shot k
   have hl := pre_len (g.LL x.term)
   exact ⟨g.Ld _ _ a1, by omega, by rw [g.tAt_ a2]; exact a3, by rw [g.take a2]; exact a4.gle g⟩
theorem Inv.same_log (I : Inv n G nd) {i : Nat} {x : Nd} (hi : i < n) (hl : x.log = (nd i).log) (ht : (nd i).term ≤ x.term) (hw : x.who = G.V x.term i)
 (h3 : x.role = 3 → (nd i).role = 3 ∧ x.term = (nd i).term ∧ ∀ q, q < n → q ≠ i → x.mt q ≤ G.A x.term q)
 (h2 : x.role = 2 → (nd i).role = 2 ∧ x.term = (nd i).term ∧ ∀ q, q < n → x.sides q = true → G.V x.term q = some i)
 (hc : x.commit ≤ x.log.length ∧ ComC n G x.term (x.log.take x.commit)) : Inv n G (upd nd i x) := by
 have tm : ∀ j, (nd j).term ≤ (upd nd i x j).term := fun j => by
  by_cases h : j = i
  · subst h; rw [upd_same]; exact ht
  · rw [upd_ne _ _ h]; exact Nat.le_refl _
 refine ⟨fun j hj => ?_, fun j hj k hk => ?_, I.ld0, fun T c h => ?_, fun T j c hj h => ?_, fun j hj => ?_, I.quo, I.vlg, fun T q c hq h h0 => ?_, fun T q hq => ?_, fun T q k hq h1 hk => ?_, I.vkeep, fun j hj h => ?_, fun j hj h => ?_, fun j hj => ?_⟩
 · by_cases h : j = i
   · subst h; rw [upd_same, hl]; exact I.good j hj
   · rw [upd_ne _ _ h]; exact I.good j hj
 · by_cases h : j = i
   · subst h; rw [upd_same] at hk ⊢; rw [hl] at hk ⊢; exact Nat.le_trans (I.below j hj k hk) ht
   · rw [upd_ne _ _ h] at hk ⊢; exact I.below j hj k hk
 · obtain ⟨a1, a2, a3⟩ := I.ldc T c h
   exact ⟨a1, Nat.le_trans a2 (tm c), a3⟩
 · obtain ⟨a1, a2, a3⟩ := I.votes T j c hj h
   exact ⟨a1, Nat.le_trans a2 (tm j), Nat.le_trans a3 (tm c)⟩
 · by_cases h : j = i
   · subst h; rw [upd_same]; exact hw
   · rw [upd_ne _ _ h]; exact I.who j hj
 · obtain ⟨X, a1, a2⟩ := I.vcand T q c hq h h0
   refine ⟨X, a1, fun e r => ?_⟩
   by_cases hci : c = i
   · subst hci
     rw [upd_same] at e r ⊢
     obtain ⟨r2, e2, _⟩ := h2 r
     rw [hl]
     exact a2 (by omega) r2
   · rw [upd_ne _ _ hci] at e r ⊢; exact a2 e r
 · obtain ⟨a1, a2⟩ := I.ackb T q hq
   exact ⟨a1, fun h => Nat.le_trans (a2 h) (tm q)⟩
 · have hkl := (I.ackb T q hq).1
   have := tm q
   by_cases h : q = i
   · subst h
     rw [upd_same] at this ⊢
     rw [hl]
     rcases I.keep T q k hq h1 hk with a | a
     · exact .inl a
     · exact .inr (a.gle (Gle.refl G) (by omega) (by omega))
   · rw [upd_ne _ _ h]; exact I.keep T q k hq h1 hk
 · by_cases hji : j = i
   · subst hji
     rw [upd_same] at h ⊢
     obtain ⟨r, e, m⟩ := h3 h
     obtain ⟨a1, a2, a3, a4⟩ := I.lead j hj r
     rw [hl, e]
     exact ⟨a1, a2, a3, by rw [← e]; exact m⟩
   · rw [upd_ne _ _ hji] at h ⊢; exact I.lead j hj h
 · by_cases hji : j = i
   · subst hji
     rw [upd_same] at h ⊢
     obtain ⟨r, e, m⟩ := h2 h
     obtain ⟨a1, a2, a3, a4⟩ := I.cand j hj r
     rw [hl, e]
     exact ⟨a1, a2, a3, by rw [← e]; exact m⟩
   · rw [upd_ne _ _ hji] at h ⊢; exact I.cand j hj h
 · by_cases hji : j = i
   · subst hji; rw [upd_same]; exact hc
   · rw [upd_ne _ _ hji]; exact I.com j hj
end
section
variable {n : Nat} {G : Gh} {nd : Nat → Nd}
def ackG (G : Gh) (T i m : Nat) : Gh := { G with A := fun U q => if U = T ∧ q = i then max (G.A T i) m else G.A U q }
theorem ackG_same (G : Gh) (T i m : Nat) : (ackG G T i m).A T i = max (G.A T i) m := by show (if T = T ∧ i = i then _ else _) = _; rw [if_pos ⟨rfl, rfl⟩]
theorem ackG_ne (G : Gh) {T i : Nat} (m : Nat) {U q : Nat} (h : ¬ (U = T ∧ q = i)) : (ackG G T i m).A U q = G.A U q := by show (if U = T ∧ q = i then _ else _) = _; rw [if_neg h]
theorem ackG_le (G : Gh) (T i m : Nat) : Gle G (ackG G T i m) := by
 refine ⟨fun _ => List.prefix_rfl, fun _ _ => rfl, fun _ _ h => h, fun _ _ _ h => h, fun _ _ _ h => h, fun U q => ?_, fun _ h => h⟩
 by_cases h : U = T ∧ q = i
 · obtain ⟨rfl, rfl⟩ := h; rw [ackG_same]; omega
 · rw [ackG_ne G m h]; exact Nat.le_refl _
theorem Inv.take_log (I : Inv n G nd) {i : Nat} {x : Nd} {m : Nat} (hi : i < n) (ht : x.term = (nd i).term) (hw : x.who = (nd i).who) (h2 : x.role ≠ 2) (h3 : x.role ≠ 3)
 (hg : Good G.LL x.log) (hb : ∀ k, k ≤ x.log.length → tAt x.log k ≤ x.term) (hm : m ≤ (G.LL x.term).length) (hp : (G.LL x.term).take m <+: x.log)
 (hk : ∀ T k, 1 ≤ k → k ≤ G.A T i → (G.LL T).take k <+: (nd i).log → (G.LL T).take k <+: x.log ∨ Lost G T k (x.term + 1))
 (hc : x.commit ≤ x.log.length ∧ ComC n G x.term (x.log.take x.commit)) : Inv n (ackG G x.term i m) (upd nd i x) := by
 have g := ackG_le G x.term i m
 have tm : ∀ j, (upd nd i x j).term = (nd j).term := fun j => by
  by_cases h : j = i
  · subst h; rw [upd_same]; exact ht
  · rw [upd_ne _ _ h]
 refine ⟨fun j hj => ?_, fun j hj k hk => ?_, I.ld0, fun T c h => ?_, fun T j c hj h => ?_, fun j hj => ?_, I.quo, I.vlg, fun T q c hq h h0 => ?_, fun T q hq => ?_, fun T q k hq h1 hk' => ?_, fun U q X T k hq hX hTU h1 hk' => ?_, fun j hj h => ?_, fun j hj h => ?_, fun j hj => ?_⟩
 · by_cases h : j = i
   · subst h; rw [upd_same]; exact hg
   · rw [upd_ne _ _ h]; exact I.good j hj
 · by_cases h : j = i
   · subst h; rw [upd_same] at hk ⊢; exact hb k hk
   · rw [upd_ne _ _ h] at hk ⊢; exact I.below j hj k hk
 · rw [tm]; exact I.ldc T c h
 · rw [tm, tm]; exact I.votes T j c hj h
 · by_cases h : j = i
   · subst h; rw [upd_same, hw, ht]; exact I.who j hj
   · rw [upd_ne _ _ h]; exact I.who j hj
 · obtain ⟨X, a1, a2⟩ := I.vcand T q c hq h h0
   refine ⟨X, a1, fun e r => ?_⟩
   by_cases hci : c = i
   · subst hci; rw [upd_same] at r; exact absurd r h2
   · rw [upd_ne _ _ hci] at e r ⊢; exact a2 e r
 · rw [tm]
   by_cases h : T = x.term ∧ q = i
   · obtain ⟨rfl, rfl⟩ := h
     rw [ackG_same]
     have a := (I.ackb x.term q hq).1
     refine ⟨?_, fun _ => by omega⟩
     show max _ m ≤ (G.LL x.term).length
     omega
   · rw [ackG_ne G m h]; exact I.ackb T q hq
 · rw [tm]
   by_cases hqi : q = i
   · subst hqi
     rw [upd_same]
     by_cases hT : T = x.term ∧ ¬ k ≤ G.A T q
     · obtain ⟨rfl, hn⟩ := hT
       rw [ackG_same] at hk'
       exact .inl ((take_take_pre (G.LL x.term) (show k ≤ m by omega)).trans hp)
     · have hA : k ≤ G.A T q := by
        by_cases hT2 : T = x.term
        · exact Classical.byContradiction fun hn => hT ⟨hT2, hn⟩
        · rw [ackG_ne G m (fun h => hT2 h.1)] at hk'; exact hk'
       have hkl := (I.ackb T q hq).1
       rcases I.keep T q k hq h1 hA with a | a
       · rcases hk T k h1 hA a with b | b
         · exact .inl b
         · exact .inr (b.gle g (by omega) (by omega))
       · exact .inr (a.gle g (by omega) (Nat.le_refl _))
   · rw [upd_ne _ _ hqi]
     rw [ackG_ne G m (fun h => hqi h.2)] at hk'
     have hkl := (I.ackb T q hq).1
     rcases I.keep T q k hq h1 hk' with a | a
     · exact .inl a
     · exact .inr (a.gle g (by omega) (Nat.le_refl _))
 · have hA : k ≤ G.A T q := by
    by_cases h : T = x.term ∧ q = i
    · exfalso
      obtain ⟨rfl, rfl⟩ := h
      obtain ⟨c, hc⟩ := Option.ne_none_iff_exists'.1 (I.vlg U q X hq hX).2
      have := (I.votes U q c hq hc).2.1
      omega
    · rw [ackG_ne G m h] at hk'; exact hk'
   have hkl := (I.ackb T q hq).1
   rcases I.vkeep U q X T k hq hX hTU h1 hA with a | a
   · exact .inl a
   · exact .inr (a.gle g (by omega) (Nat.le_refl _))
 · by_cases hji : j = i
   · subst hji; rw [upd_same] at h; exact absurd h h3
   · rw [upd_ne _ _ hji] at h ⊢
     obtain ⟨a1, a2, a3, a4⟩ := I.lead j hj h
     exact ⟨a1, a2, by rw [ackG_ne G m (fun h => hji h.2)]; exact a3, fun q hq hne => Nat.le_trans (a4 q hq hne) (g.A _ _)⟩
 · by_cases hji : j = i
   · subst hji; rw [upd_same] at h; exact absurd h h2
   · rw [upd_ne _ _ hji] at h ⊢; exact I.cand j hj h
 · by_cases hji : j = i
   · subst hji; rw [upd_same]; exact ⟨hc.1, hc.2.gle g⟩
   · rw [upd_ne _ _ hji]; exact ⟨(I.com j hj).1, (I.com j hj).2.gle g⟩
theorem Lle.refl (X : Log) : Lle X X := .inr ⟨rfl, Nat.le_refl _⟩
def voteG (G : Gh) (T q c : Nat) (l : Log) : Gh :=
 { G with V := fun U j => if U = T ∧ j = q then some c else G.V U j, VL := fun U j => if U = T ∧ j = q ∧ G.Ld T = none then some l else G.VL U j }
theorem voteG_V (G : Gh) (T q c : Nat) (l : Log) : (voteG G T q c l).V T q = some c := by show (if T = T ∧ q = q then _ else _) = _; rw [if_pos ⟨rfl, rfl⟩]
theorem voteG_Vne (G : Gh) {T q : Nat} (c : Nat) (l : Log) {U j : Nat} (h : ¬ (U = T ∧ j = q)) : (voteG G T q c l).V U j = G.V U j := by show (if U = T ∧ j = q then _ else _) = _; rw [if_neg h]
theorem voteG_L (G : Gh) {T : Nat} (q c : Nat) (l : Log) (h : G.Ld T = none) : (voteG G T q c l).VL T q = some l := by show (if T = T ∧ q = q ∧ G.Ld T = none then _ else _) = _; rw [if_pos ⟨rfl, rfl, h⟩]
theorem voteG_Lne (G : Gh) {T q : Nat} (c : Nat) (l : Log) {U j : Nat} (h : ¬ (U = T ∧ j = q ∧ G.Ld T = none)) : (voteG G T q c l).VL U j = G.VL U j := by show (if U = T ∧ j = q ∧ G.Ld T = none then _ else _) = _; rw [if_neg h]
theorem voteG_le (I : Inv n G nd) {T q : Nat} (c : Nat) (l : Log) (hq : q < n) (h : G.V T q = none) : Gle G (voteG G T q c l) := by
 refine ⟨fun _ => List.prefix_rfl, fun _ _ => rfl, fun _ _ h => h, fun U j d e => ?_, fun U j X e => ?_, fun _ _ => Nat.le_refl _, fun _ h => h⟩
 · by_cases hh : U = T ∧ j = q
   · obtain ⟨rfl, rfl⟩ := hh; rw [h] at e; cases e
   · rw [voteG_Vne G c l hh]; exact e
 · by_cases hh : U = T ∧ j = q ∧ G.Ld T = none
   · obtain ⟨rfl, rfl, _⟩ := hh
     exact absurd h (I.vlg U j X hq e).2
   · rw [voteG_Lne G c l hh]; exact e
theorem Inv.vote (I : Inv n G nd) {q c : Nat} {x : Nd} (hq : q < n) (hcn : c < n) (ht : (nd q).term ≤ x.term) (hl : x.log = (nd q).log) (hv : G.V x.term q = none) (hw : x.who = some c) (hcm : x.commit = (nd q).commit)
 (h3 : x.role ≠ 3) (h2 : x.role = 2 → c = q ∧ (nd q).term < x.term ∧ ∀ j, j < n → x.sides j = true → j = q)
 (hct : c ≠ q → x.term ≤ (nd c).term ∧ x.role = 0 ∧ ((nd c).term = x.term → (nd c).role = 2 → Lle (nd q).log (nd c).log)) (hcq : c = q → (nd q).term < x.term) : Inv n (voteG G x.term q c (nd q).log) (upd nd q x) := by
 have g := voteG_le I c (nd q).log hq hv
 have tm : ∀ j, (nd j).term ≤ (upd nd q x j).term := fun j => by
  by_cases h : j = q
  · subst h; rw [upd_same]; exact ht
  · rw [upd_ne _ _ h]; exact Nat.le_refl _
 have lg : ∀ j, (upd nd q x j).log = (nd j).log := fun j => by
  by_cases h : j = q
  · subst h; rw [upd_same]; exact hl
  · rw [upd_ne _ _ h]
 refine ⟨fun j hj => ?_, fun j hj k hk => ?_, I.ld0, fun T d h => ?_, fun T j d hj h => ?_, fun j hj => ?_, fun T d h => ?_, fun U j X hj h => ?_, fun T j d hj h h0 => ?_, fun T j hj => ?_, fun T j k hj h1 hk => ?_, fun U j X T k hj hX hTU h1 hk => ?_, fun j hj h => ?_, fun j hj h => ?_, fun j hj => ?_⟩
 · rw [lg]; exact I.good j hj
 · rw [lg] at hk ⊢; exact Nat.le_trans (I.below j hj k hk) (tm j)
 · obtain ⟨a1, a2, a3⟩ := I.ldc T d h
   exact ⟨a1, Nat.le_trans a2 (tm d), a3⟩
 · by_cases hh : T = x.term ∧ j = q
   · obtain ⟨rfl, rfl⟩ := hh
     rw [voteG_V] at h
     cases h
     refine ⟨hcn, by rw [upd_same]; exact Nat.le_refl _, ?_⟩
     by_cases e : c = j
     · subst e; rw [upd_same]; exact Nat.le_refl _
     · rw [upd_ne _ _ e]; exact (hct e).1
   · rw [voteG_Vne G c _ hh] at h
     obtain ⟨a1, a2, a3⟩ := I.votes T j d hj h
     exact ⟨a1, Nat.le_trans a2 (tm j), Nat.le_trans a3 (tm d)⟩
 · by_cases h : j = q
   · subst h; rw [upd_same, voteG_V]; exact hw
   · rw [upd_ne _ _ h, voteG_Vne G c _ (fun e => h e.2)]; exact I.who j hj
 · obtain ⟨p, hp, hx⟩ := I.quo T d h
   refine ⟨p, hp, fun j hj hpj => ?_⟩
   obtain ⟨a1, X, a2, a3⟩ := hx j hj hpj
   exact ⟨g.V _ _ _ a1, X, g.VL _ _ _ a2, a3⟩
 · by_cases hh : U = x.term ∧ j = q ∧ G.Ld x.term = none
   · obtain ⟨rfl, rfl, hn⟩ := hh
     rw [voteG_L G j c _ hn] at h
     cases h
     exact ⟨I.good j hj, by rw [voteG_V]; simp⟩
   · rw [voteG_Lne G c _ hh] at h
     obtain ⟨a1, a2⟩ := I.vlg U j X hj h
     refine ⟨a1, ?_⟩
     obtain ⟨d, hd⟩ := Option.ne_none_iff_exists'.1 a2
     rw [g.V _ _ _ hd]; simp
 · have h0' : G.Ld T = none := h0
   by_cases hh : T = x.term ∧ j = q
   · obtain ⟨rfl, rfl⟩ := hh
     rw [voteG_V] at h
     cases h
     refine ⟨_, voteG_L G j c _ h0', fun e r => ?_⟩
     rw [lg]
     by_cases ec : c = j
     · subst ec; exact Lle.refl _
     · rw [upd_ne _ _ ec] at e r; exact (hct ec).2.2 e r
   · rw [voteG_Vne G c _ hh] at h
     obtain ⟨X, a1, a2⟩ := I.vcand T j d hj h h0'
     refine ⟨X, g.VL _ _ _ a1, fun e r => ?_⟩
     rw [lg]
     by_cases ed : d = q
     · subst ed
       rw [upd_same] at e r
       have := (I.votes T j d hj h).2.2
       have := (h2 r).2.1
       omega
     · rw [upd_ne _ _ ed] at e r; exact a2 e r
 · obtain ⟨a1, a2⟩ := I.ackb T j hj
   exact ⟨a1, fun h => Nat.le_trans (a2 h) (tm j)⟩
 · have hkl := (I.ackb T j hj).1
   have hk' : k ≤ G.A T j := hk
   have := tm j
   rw [lg]
   rcases I.keep T j k hj h1 hk' with a | a
   · exact .inl a
   · exact .inr (a.gle g (by omega) (by omega))
 · have hkl := (I.ackb T j hj).1
   have hk' : k ≤ G.A T j := hk
   by_cases hh : U = x.term ∧ j = q ∧ G.Ld x.term = none
   · obtain ⟨rfl, rfl, hn⟩ := hh
     rw [voteG_L G j c _ hn] at hX
     cases hX
     rcases I.keep T j k hj h1 hk' with a | ⟨T', b1, b2, b3, b4⟩
     · exact .inl a
     · refine .inr ((show Lost G T k x.term from ⟨T', b1, ?_, b3, b4⟩).gle g (by omega) (Nat.le_refl _))
       by_cases e : T' = x.term
       · rw [e, hn] at b3; exact absurd rfl b3
       · omega
   · rw [voteG_Lne G c _ hh] at hX
     rcases I.vkeep U j X T k hj hX hTU h1 hk' with a | a
     · exact .inl a
     · exact .inr (a.gle g (by omega) (Nat.le_refl _))
 · by_cases hji : j = q
   · subst hji; rw [upd_same] at h; exact absurd h h3
   · rw [upd_ne _ _ hji] at h ⊢; exact I.lead j hj h
 · by_cases hji : j = q
   · subst hji
     rw [upd_same] at h ⊢
     obtain ⟨rfl, hlt, hs⟩ := h2 h
     refine ⟨voteG_V _ _ _ _ _, fun e => ?_, fun k hk => ?_, fun i hi hsi => ?_⟩
     · have := (I.ldc _ _ e).2.1
       omega
     · rw [hl] at hk ⊢
       have := I.below c hj k hk
       omega
     · rw [hs i hi hsi]; exact voteG_V _ _ _ _ _
   · rw [upd_ne _ _ hji] at h ⊢
     obtain ⟨a1, a2, a3, a4⟩ := I.cand j hj h
     exact ⟨g.V _ _ _ a1, a2, a3, fun i hi hs => g.V _ _ _ (a4 i hi hs)⟩
 · by_cases hji : j = q
   · subst hji
     rw [upd_same, hl, hcm]
     exact ⟨(I.com j hj).1, ((I.com j hj).2.mono ht).gle g⟩
   · rw [upd_ne _ _ hji]; exact ⟨(I.com j hj).1, (I.com j hj).2.gle g⟩
end
end Go.Proofs.Yteellfgiejnigaa.RS
