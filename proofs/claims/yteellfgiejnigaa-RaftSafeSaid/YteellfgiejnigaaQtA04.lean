/- RaftSafe: S4. -/
import Derived.Test.YteellfgiejnigaaQtA03
namespace Go.Proofs.Yteellfgiejnigaa.RS
set_option linter.unusedVariables false
section
variable {n : Nat} {G : Gh} {nd : Nat → Nd}
def leadG (G : Gh) (T i : Nat) (l : Log) : Gh :=
 { G with LL := fun U => if U = T then l else G.LL U, CL := fun U => if U = T then l else G.CL U, Ld := fun U => if U = T then some i else G.Ld U, A := fun U q => if U = T ∧ q = i then l.length else G.A U q }
theorem leadG_LL (G : Gh) (T i : Nat) (l : Log) : (leadG G T i l).LL T = l := by show (if T = T then _ else _) = _; rw [if_pos rfl]
theorem leadG_LLne (G : Gh) {T : Nat} (i : Nat) (l : Log) {U : Nat} (h : U ≠ T) : (leadG G T i l).LL U = G.LL U := by show (if U = T then _ else _) = _; rw [if_neg h]
theorem leadG_CL (G : Gh) (T i : Nat) (l : Log) : (leadG G T i l).CL T = l := by show (if T = T then _ else _) = _; rw [if_pos rfl]
theorem leadG_CLne (G : Gh) {T : Nat} (i : Nat) (l : Log) {U : Nat} (h : U ≠ T) : (leadG G T i l).CL U = G.CL U := by show (if U = T then _ else _) = _; rw [if_neg h]
theorem leadG_Ld (G : Gh) (T i : Nat) (l : Log) : (leadG G T i l).Ld T = some i := by show (if T = T then _ else _) = _; rw [if_pos rfl]
theorem leadG_Ldne (G : Gh) {T : Nat} (i : Nat) (l : Log) {U : Nat} (h : U ≠ T) : (leadG G T i l).Ld U = G.Ld U := by show (if U = T then _ else _) = _; rw [if_neg h]
theorem leadG_A (G : Gh) (T i : Nat) (l : Log) : (leadG G T i l).A T i = l.length := by show (if T = T ∧ i = i then _ else _) = _; rw [if_pos ⟨rfl, rfl⟩]
theorem leadG_Ane (G : Gh) {T i : Nat} (l : Log) {U q : Nat} (h : ¬ (U = T ∧ q = i)) : (leadG G T i l).A U q = G.A U q := by show (if U = T ∧ q = i then _ else _) = _; rw [if_neg h]
theorem leadG_le (I : Inv n G nd) {T i : Nat} (l : Log) (hi : i < n) (h : G.Ld T = none) : Gle G (leadG G T i l) := by
 have h0 := I.ld0 T h
 refine ⟨fun U => ?_, fun U hU => ?_, fun U c e => ?_, fun _ _ _ h => h, fun _ _ _ h => h, fun U q => ?_, fun _ h => h⟩
 · by_cases e : U = T
   · subst e; rw [h0]; exact List.nil_prefix
   · rw [leadG_LLne G i l e]; exact List.prefix_rfl
 · exact leadG_CLne G i l (fun e => hU (by rw [e]; exact h))
 · rw [leadG_Ldne G i l (fun e2 => by rw [e2, h] at e; cases e)]; exact e
 · by_cases e : U = T ∧ q = i
   · obtain ⟨rfl, rfl⟩ := e
     have := (I.ackb U q hi).1
     rw [h0] at this
     have h1 : ([] : Log).length = 0 := rfl
     omega
   · rw [leadG_Ane G l e]; exact Nat.le_refl _
theorem Inv.free (I : Inv n G nd) {i : Nat} (hi : i < n) (hr : (nd i).role = 2) (hm : Maj n (nd i).sides) : G.Ld (nd i).term = none := by
 obtain ⟨a1, a2, a3, a4⟩ := I.cand i hi hr
 cases h : G.Ld (nd i).term with
 | none => rfl
 | some c =>
  exfalso
  obtain ⟨p, hp, hx⟩ := I.quo _ c h
  obtain ⟨q, hq, h1, h2⟩ := maj_meet hp hm
  have e1 := (hx q hq h1).1
  have e2 := a4 q hq h2
  rw [e1] at e2
  have : c = i := by simpa using e2
  rw [this] at h
  exact a2 h
theorem Inv.elect (I : Inv n G nd) {i : Nat} {x : Nd} (hi : i < n) (hr : (nd i).role = 2) (hm : Maj n (nd i).sides) (ht : x.term = (nd i).term) (hw : x.who = (nd i).who) (hl : x.log = (nd i).log) (hc : x.commit = (nd i).commit)
 (h3 : x.role = 3) (hmt : ∀ q, q < n → q ≠ i → x.mt q = 0) : Inv n (leadG G x.term i x.log) (upd nd i x) := by
 have hf : G.Ld x.term = none := by rw [ht]; exact I.free hi hr hm
 have g := leadG_le I x.log hi hf
 obtain ⟨c1, c2, c3, c4⟩ := I.cand i hi hr
 have h0 := I.ld0 _ hf
 have tm : ∀ j, (upd nd i x j).term = (nd j).term := fun j => by
  by_cases h : j = i
  · subst h; rw [upd_same]; exact ht
  · rw [upd_ne _ _ h]
 have lg : ∀ j, (upd nd i x j).log = (nd j).log := fun j => by
  by_cases h : j = i
  · subst h; rw [upd_same]; exact hl
  · rw [upd_ne _ _ h]
 have hA0 : ∀ q, q < n → G.A x.term q = 0 := fun q hq => by
  have := (I.ackb x.term q hq).1
  rw [h0] at this
  simpa using this
 refine ⟨fun j hj => ?_, fun j hj k hk => ?_, fun T h => ?_, fun T d h => ?_, fun T j d hj h => ?_, fun j hj => ?_, fun T d h => ?_, fun U j X hj h => ?_, fun T j d hj h hn => ?_, fun T j hj => ?_, fun T j k hj h1 hk => ?_, fun U j X T k hj hX hTU h1 hk => ?_, fun j hj h => ?_, fun j hj h => ?_, fun j hj => ?_⟩
 · rw [lg]; exact (I.good j hj).mono g.LL
 · rw [lg] at hk ⊢; rw [tm]; exact I.below j hj k hk
 · by_cases e : T = x.term
   · rw [e, leadG_Ld] at h; cases h
   · rw [leadG_Ldne G i _ e] at h; rw [leadG_LLne G i _ e]; exact I.ld0 T h
 · by_cases e : T = x.term
   · subst e
     rw [leadG_Ld] at h
     cases h
     rw [leadG_CL, leadG_LL]
     refine ⟨hi, by rw [upd_same]; exact Nat.le_refl _, ?_, ?_, fun k hk => ?_, List.prefix_rfl, fun k h1 h2 => by omega⟩
     · have := c3 0 (Nat.zero_le _)
       rw [ht]; omega
     · have a := (I.good i hi).mono g.LL
       rw [← hl] at a
       exact a
     · rw [hl] at hk ⊢; rw [ht]; exact c3 k hk
   · rw [leadG_Ldne G i _ e] at h
     obtain ⟨a1, a2, a3, a4, a5, a6, a7⟩ := I.ldc T d h
     rw [leadG_CLne G i _ e, leadG_LLne G i _ e, tm]
     exact ⟨a1, a2, a3, a4.mono g.LL, a5, a6, a7⟩
 · rw [tm, tm]; exact I.votes T j d hj h
 · by_cases h : j = i
   · subst h; rw [upd_same, hw, ht]; exact I.who j hj
   · rw [upd_ne _ _ h]; exact I.who j hj
 · by_cases e : T = x.term
   · subst e
     rw [leadG_Ld] at h
     cases h
     rw [leadG_CL]
     refine ⟨(nd i).sides, hm, fun q hq hs => ?_⟩
     have hv := c4 q hq hs
     rw [← ht] at hv
     obtain ⟨X, a1, a2⟩ := I.vcand x.term q i hq hv hf
     exact ⟨hv, X, a1, by rw [hl]; exact a2 ht.symm hr⟩
   · rw [leadG_Ldne G i _ e] at h
     obtain ⟨p, hp, hx⟩ := I.quo T d h
     refine ⟨p, hp, fun q hq hpq => ?_⟩
     rw [leadG_CLne G i _ e]
     exact hx q hq hpq
 · obtain ⟨a1, a2⟩ := I.vlg U j X hj h
   exact ⟨a1.mono g.LL, a2⟩
 · by_cases e : T = x.term
   · rw [e, leadG_Ld] at hn; cases hn
   · rw [leadG_Ldne G i _ e] at hn
     obtain ⟨X, a1, a2⟩ := I.vcand T j d hj h hn
     refine ⟨X, a1, fun e2 r => ?_⟩
     rw [lg]
     by_cases ed : d = i
     · subst ed; rw [upd_same, h3] at r; cases r
     · rw [upd_ne _ _ ed] at e2 r; exact a2 e2 r
 · rw [tm]
   by_cases e : T = x.term ∧ j = i
   · obtain ⟨rfl, rfl⟩ := e
     rw [leadG_A, leadG_LL]
     exact ⟨Nat.le_refl _, fun _ => by omega⟩
   · rw [leadG_Ane G _ e]
     obtain ⟨a1, a2⟩ := I.ackb T j hj
     exact ⟨Nat.le_trans a1 (pre_len (g.LL T)), a2⟩
 · rw [tm, lg]
   by_cases e : T = x.term
   · subst e
     by_cases ej : j = i
     · subst ej
       rw [leadG_LL, hl]
       exact .inl (take_pre _ _)
     · rw [leadG_Ane G _ (fun h => ej h.2), hA0 j hj] at hk
       omega
   · rw [leadG_Ane G _ (fun h => e h.1)] at hk
     have hkl := (I.ackb T j hj).1
     rw [leadG_LLne G i _ e]
     rcases I.keep T j k hj h1 hk with a | a
     · exact .inl a
     · have b := a.gle g (by omega) (Nat.le_refl _)
       exact .inr b
 · by_cases e : T = x.term
   · exfalso
     subst e
     by_cases ej : j = i
     · subst ej
       obtain ⟨d, hd⟩ := Option.ne_none_iff_exists'.1 (I.vlg U j X hj hX).2
       have := (I.votes U j d hj hd).2.1
       omega
     · rw [leadG_Ane G _ (fun h => ej h.2), hA0 j hj] at hk
       omega
   · rw [leadG_Ane G _ (fun h => e h.1)] at hk
     have hkl := (I.ackb T j hj).1
     rw [leadG_LLne G i _ e]
     rcases I.vkeep U j X T k hj hX hTU h1 hk with a | a
     · exact .inl a
     · exact .inr (a.gle g (by omega) (Nat.le_refl _))
 · by_cases hji : j = i
   · subst hji
     rw [upd_same, leadG_Ld, leadG_LL, leadG_A]
     exact ⟨rfl, rfl, rfl, fun q hq hne => by rw [hmt q hq hne]; exact Nat.zero_le _⟩
   · rw [upd_ne _ _ hji] at h ⊢
     obtain ⟨a1, a2, a3, a4⟩ := I.lead j hj h
     have e : (nd j).term ≠ x.term := fun e => by rw [e, hf] at a1; cases a1
     rw [leadG_Ldne G i _ e, leadG_LLne G i _ e, leadG_Ane G _ (fun h => e h.1)]
     exact ⟨a1, a2, a3, fun q hq hne => Nat.le_trans (a4 q hq hne) (g.A _ _)⟩
 · by_cases hji : j = i
   · subst hji; rw [upd_same, h3] at h; cases h
   · rw [upd_ne _ _ hji] at h ⊢
     obtain ⟨a1, a2, a3, a4⟩ := I.cand j hj h
     refine ⟨a1, ?_, a3, a4⟩
     by_cases e : (nd j).term = x.term
     · rw [e, leadG_Ld]
       intro e2
       exact hji (by simpa using e2.symm)
     · rw [leadG_Ldne G i _ e]; exact a2
 · by_cases hji : j = i
   · subst hji
     have a := (I.com j hj).2.gle g
     have b := (I.com j hj).1
     rw [upd_same]
     refine ⟨by rw [hl, hc]; exact b, ?_⟩
     have e : x.log.take x.commit = (nd j).log.take (nd j).commit := by rw [hl, hc]
     rw [e]
     rw [← ht] at a
     exact a
   · rw [upd_ne _ _ hji]; exact ⟨(I.com j hj).1, (I.com j hj).2.gle g⟩
def addG (G : Gh) (T i : Nat) (l : Log) : Gh := { G with LL := fun U => if U = T then l else G.LL U, A := fun U q => if U = T ∧ q = i then l.length else G.A U q }
theorem addG_LL (G : Gh) (T i : Nat) (l : Log) : (addG G T i l).LL T = l := by show (if T = T then _ else _) = _; rw [if_pos rfl]
theorem addG_LLne (G : Gh) {T : Nat} (i : Nat) (l : Log) {U : Nat} (h : U ≠ T) : (addG G T i l).LL U = G.LL U := by show (if U = T then _ else _) = _; rw [if_neg h]
theorem addG_A (G : Gh) (T i : Nat) (l : Log) : (addG G T i l).A T i = l.length := by show (if T = T ∧ i = i then _ else _) = _; rw [if_pos ⟨rfl, rfl⟩]
theorem addG_Ane (G : Gh) {T i : Nat} (l : Log) {U q : Nat} (h : ¬ (U = T ∧ q = i)) : (addG G T i l).A U q = G.A U q := by show (if U = T ∧ q = i then _ else _) = _; rw [if_neg h]
theorem tAt_app_last (l : Log) (e : Nat × List UInt8) : tAt (l ++ [e]) (l.length + 1) = e.1 := by
 rw [tAt_succ, List.getElem?_append_right (Nat.le_refl _)]
 simp
theorem Inv.append (I : Inv n G nd) {i : Nat} {x : Nd} {e : Nat × List UInt8} (hi : i < n) (hr : (nd i).role = 3) (ht : x.term = (nd i).term) (hw : x.who = (nd i).who) (he : e.1 = x.term) (hl : x.log = (nd i).log ++ [e]) (hc : x.commit = (nd i).commit)
 (h3 : x.role = 3) (hmt : x.mt = (nd i).mt) : Gle G (addG G x.term i x.log) ∧ Inv n (addG G x.term i x.log) (upd nd i x) := by
 obtain ⟨l1, l2, l3, l4⟩ := I.lead i hi hr
 rw [← ht] at l1 l2 l3 l4
 have hpre : (nd i).log <+: x.log := by rw [hl]; exact List.prefix_append _ _
 have hlen : x.log.length = (nd i).log.length + 1 := by rw [hl]; simp
 have g : Gle G (addG G x.term i x.log) := by
  refine ⟨fun U => ?_, fun _ _ => rfl, fun _ _ h => h, fun _ _ _ h => h, fun _ _ _ h => h, fun U q => ?_, fun _ h => h⟩
  · by_cases e : U = x.term
    · subst e; rw [addG_LL, ← l2]; exact hpre
    · rw [addG_LLne G i _ e]; exact List.prefix_rfl
  · by_cases e : U = x.term ∧ q = i
    · obtain ⟨rfl, rfl⟩ := e; rw [addG_A, l3]; omega
    · rw [addG_Ane G _ e]; exact Nat.le_refl _
 obtain ⟨d1, d2, d3, d4, d5, d6, d7⟩ := I.ldc _ _ l1
 have hlast : tAt x.log x.log.length = x.term := by rw [hlen, hl, tAt_app_last]; exact he
 have hold : ∀ k, k ≤ (nd i).log.length → tAt x.log k = tAt (nd i).log k := fun k hk => (tAt_prefix hpre hk).symm
 have hgx : Good (addG G x.term i x.log).LL x.log := by
  have hg := (I.good i hi).mono g.LL
  refine ⟨fun k h1 h2 => ?_, fun j k h1 h2 h3 => ?_, fun k h1 h2 => ?_⟩
  · by_cases hk : k ≤ (nd i).log.length
    · rw [hold k hk, take_of_pre hpre hk]; exact hg.pre k h1 hk
    · have : k = x.log.length := by omega
      rw [this, hlast, addG_LL, List.take_length]; exact List.prefix_rfl
  · by_cases hk : k ≤ (nd i).log.length
    · rw [hold k hk, hold j (by omega)]; exact hg.up j k h1 h2 hk
    · have : k = x.log.length := by omega
      rw [this, hlast]
      by_cases hj : j ≤ (nd i).log.length
      · rw [hold j hj, ht]; exact I.below i hi j hj
      · have : j = x.log.length := by omega
        rw [this, hlast]; exact Nat.le_refl _
  · by_cases hk : k ≤ (nd i).log.length
    · rw [hold k hk]; exact hg.pos k h1 hk
    · have : k = x.log.length := by omega
      rw [this, hlast]; exact d3
 have tm : ∀ j, (upd nd i x j).term = (nd j).term := fun j => by
  by_cases h : j = i
  · subst h; rw [upd_same]; exact ht
  · rw [upd_ne _ _ h]
 refine ⟨g, fun j hj => ?_, fun j hj k hk => ?_, fun T h => ?_, fun T d h => ?_, fun T j d hj h => ?_, fun j hj => ?_, I.quo, fun U j X hj h => ?_, fun T j d hj h hn => ?_, fun T j hj => ?_, fun T j k hj h1 hk => ?_, fun U j X T k hj hX hTU h1 hk => ?_, fun j hj h => ?_, fun j hj h => ?_, fun j hj => ?_⟩
 · by_cases h : j = i
   · subst h; rw [upd_same]; exact hgx
   · rw [upd_ne _ _ h]; exact (I.good j hj).mono g.LL
 · by_cases h : j = i
   · subst h
     rw [upd_same] at hk ⊢
     by_cases hk2 : k ≤ (nd j).log.length
     · rw [hold k hk2, ht]; exact I.below j hj k hk2
     · have : k = x.log.length := by omega
       rw [this, hlast]; exact Nat.le_refl _
   · rw [upd_ne _ _ h] at hk ⊢; exact I.below j hj k hk
 · have h' : G.Ld T = none := h
   by_cases e : T = x.term
   · rw [e, l1] at h'; cases h'
   · rw [addG_LLne G i _ e]; exact I.ld0 T h'
 · have h' : G.Ld T = some d := h
   obtain ⟨a1, a2, a3, a4, a5, a6, a7⟩ := I.ldc T d h'
   refine ⟨a1, by rw [tm]; exact a2, a3, a4.mono g.LL, a5, a6.trans (g.LL T), fun k h1 h2 => ?_⟩
   by_cases e : T = x.term
   · subst e
     rw [addG_LL] at h2 ⊢
     by_cases hk : k ≤ (nd i).log.length
     · rw [hold k hk, l2]
       exact a7 k h1 (by rw [← l2]; exact hk)
     · have : k = x.log.length := by omega
       rw [this, hlast]
   · rw [addG_LLne G i _ e] at h2 ⊢; exact a7 k h1 h2
 · rw [tm, tm]; exact I.votes T j d hj h
 · by_cases h : j = i
   · subst h; rw [upd_same, hw, ht]; exact I.who j hj
   · rw [upd_ne _ _ h]; exact I.who j hj
 · obtain ⟨a1, a2⟩ := I.vlg U j X hj h
   exact ⟨a1.mono g.LL, a2⟩
 · obtain ⟨X, a1, a2⟩ := I.vcand T j d hj h hn
   refine ⟨X, a1, fun e2 r => ?_⟩
   by_cases ed : d = i
   · subst ed; rw [upd_same, h3] at r; cases r
   · rw [upd_ne _ _ ed] at e2 r ⊢; exact a2 e2 r
 · rw [tm]
   by_cases e : T = x.term ∧ j = i
   · obtain ⟨rfl, rfl⟩ := e
     rw [addG_A, addG_LL]
     exact ⟨Nat.le_refl _, fun _ => by omega⟩
   · rw [addG_Ane G _ e]
     obtain ⟨a1, a2⟩ := I.ackb T j hj
     exact ⟨Nat.le_trans a1 (pre_len (g.LL T)), a2⟩
 · rw [tm]
   by_cases e : T = x.term ∧ j = i
   · obtain ⟨rfl, rfl⟩ := e
     rw [upd_same, addG_LL]
     exact .inl (take_pre _ _)
   · rw [addG_Ane G _ e] at hk
     have hkl := (I.ackb T j hj).1
     rw [g.take (show k ≤ (G.LL T).length by omega)]
     rcases I.keep T j k hj h1 hk with a | a
     · left
       by_cases h : j = i
       · subst h; rw [upd_same]; exact a.trans hpre
       · rw [upd_ne _ _ h]; exact a
     · exact .inr (a.gle g (by omega) (Nat.le_refl _))
 · have hA : k ≤ G.A T j := by
    by_cases e : T = x.term ∧ j = i
    · exfalso
      obtain ⟨rfl, rfl⟩ := e
      obtain ⟨d, hd⟩ := Option.ne_none_iff_exists'.1 (I.vlg U j X hj hX).2
      have := (I.votes U j d hj hd).2.1
      omega
    · rw [addG_Ane G _ e] at hk; exact hk
   have hkl := (I.ackb T j hj).1
   rw [g.take (show k ≤ (G.LL T).length by omega)]
   rcases I.vkeep U j X T k hj hX hTU h1 hA with a | a
   · exact .inl a
   · exact .inr (a.gle g (by omega) (Nat.le_refl _))
 · by_cases hji : j = i
   · subst hji
     rw [upd_same, addG_LL, addG_A, hmt]
     exact ⟨l1, rfl, rfl, fun q hq hne => Nat.le_trans (l4 q hq hne) (g.A _ _)⟩
   · rw [upd_ne _ _ hji] at h ⊢
     obtain ⟨a1, a2, a3, a4⟩ := I.lead j hj h
     have e : (nd j).term ≠ x.term := fun e => by rw [e, l1] at a1; exact hji (by simpa using a1.symm)
     rw [addG_LLne G i _ e, addG_Ane G _ (fun h => e h.1)]
     exact ⟨a1, a2, a3, fun q hq hne => Nat.le_trans (a4 q hq hne) (g.A _ _)⟩
 · by_cases hji : j = i
   · subst hji; rw [upd_same, h3] at h; cases h
   · rw [upd_ne _ _ hji] at h ⊢; exact I.cand j hj h
 · by_cases hji : j = i
   · subst hji
     have a := (I.com j hj).2.gle g
     have hcl := (I.com j hj).1
     rw [upd_same, hc]
     refine ⟨by omega, ?_⟩
     rw [take_of_pre hpre hcl]
     rw [← ht] at a
     exact a
   · rw [upd_ne _ _ hji]; exact ⟨(I.com j hj).1, (I.com j hj).2.gle g⟩
theorem Inv.commits (I : Inv n G nd) {i k : Nat} (hi : i < n) (hr : (nd i).role = 3) (h1 : 1 ≤ k) (h2 : k ≤ (nd i).log.length) (ht : tAt (nd i).log k = (nd i).term) (hm : Maj n fun q => decide (q = i) || decide (k ≤ (nd i).mt q)) (hK : G.K (nd i).term) :
 ComC n G (nd i).term ((nd i).log.take k) := by
 obtain ⟨l1, l2, l3, l4⟩ := I.lead i hi hr
 refine .inr ⟨(nd i).term, _, Nat.le_refl _, ⟨hK, k, _, hm, fun q hq hp => ?_, h1, by rw [← l2]; exact h2, by rw [← l2]; exact ht, rfl⟩, by rw [l2]; exact List.prefix_rfl⟩
 by_cases e : q = i
 · subst e; omega
 · have : k ≤ (nd i).mt q := by simpa [e] using hp
   exact Nat.le_trans this (l4 q hq e)
end
end Go.Proofs.Yteellfgiejnigaa.RS
