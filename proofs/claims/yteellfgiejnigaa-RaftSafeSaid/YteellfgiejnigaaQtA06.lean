/- RaftSafe: S7. -/
import Derived.Test.YteellfgiejnigaaQtA05
namespace Go.Proofs.Yteellfgiejnigaa.RS
set_option linter.unusedVariables false
def whoN (w : Int) : Option Nat := if w = -1 then none else some w.toNat
def ndOf (r : Rf) (l : Log) : Nd := ⟨r.term, whoN r.who, r.role, l, r.commit, r.sides, r.mt⟩
structure St (n : Nat) (G : Gh) (nd : Nat → Nd) (i : Nat) (r : Rf) (l : Log) : Prop where
 inv : Inv n G nd
 eq : nd i = ndOf r l
 lt : i < n
 rn : r.n = n
 id : r.id = i
 whoR : -1 ≤ r.who
 trk : Trk r.base r.bt r.es l
 bc : r.base ≤ r.commit
 next : r.role = 3 → ∀ q, q < n → q ≠ i → 1 ≤ r.next q ∧ r.next q ≤ l.length + 1
structure Go (n i : Nat) (G : Gh) (nd : Nat → Nd) (G' : Gh) (nd' : Nat → Nd) : Prop where
 g : Gle G G'
 m : Nle n nd nd'
 f : ∀ j, j ≠ i → nd' j = nd j
 v : ∀ T q, q < n → T < (nd q).term → G'.V T q = G.V T q
theorem Go.refl (n i : Nat) (G : Gh) (nd : Nat → Nd) : Go n i G nd G nd := ⟨Gle.refl G, Nle.refl n nd, fun _ _ => rfl, fun _ _ _ _ => rfl⟩
theorem Go.trans {n i : Nat} {G G' G'' : Gh} {a b c : Nat → Nd} (h : Go n i G a G' b) (k : Go n i G' b G'' c) : Go n i G a G'' c := ⟨h.g.trans k.g, h.m.trans k.m, fun j hj => (k.f j hj).trans (h.f j hj), fun T q hq ht => (k.v T q hq (Nat.lt_of_lt_of_le ht (h.m.term q hq))).trans (h.v T q hq ht)⟩
structure OutOk (n : Nat) (G : Gh) (nd : Nat → Nd) (i : Nat) (r : Rf) (o : Ou) : Prop where
 send : ∀ p, p ∈ o.send → p.1 < n ∧ MsgOk n G nd i p.1 p.2
 need : ∀ k, k ∈ o.need → k < n
 lead : o.need ≠ [] → r.role = 3
theorem OutOk.none_ (n : Nat) (G : Gh) (nd : Nat → Nd) (i : Nat) (r : Rf) : OutOk n G nd i r Ou.none := ⟨fun p h => (by cases h), fun k h => (by cases h), fun h => absurd rfl h⟩
theorem OutOk.go {n : Nat} {G G' : Gh} {nd nd' : Nat → Nd} {i : Nat} {r r' : Rf} {o : Ou} (I : Inv n G nd) (h : OutOk n G nd i r o) (g : Go n i G nd G' nd') (hr : r.role = 3 → r'.role = 3) : OutOk n G' nd' i r' o :=
 ⟨fun p hp => ⟨(h.send p hp).1, (h.send p hp).2.keep I g.g g.m⟩, h.need, fun e => hr (h.lead e)⟩
structure Ext (n i : Nat) (G G' : Gh) (r : Rf) (c : Nat → Prop) (e : Prop) (res : Rf × Ou) : Prop where
 k : ∀ T, G'.K T → G.K T ∨ (T = res.1.term ∧ res.1.role = 3 ∧ (n < 2 ∨ c T))
 sz : ∀ B, (∀ T, (G.LL T).length ≤ B) → ∀ T, (G'.LL T).length ≤ B + 1
 el : res.1.role = 3 → (r.role = 3 ∧ r.term = res.1.term) ∨ n < 2 ∨ (e ∧ G.Ld res.1.term = none ∧ ∀ q, q < n → q ≠ i → q ∈ res.2.need ∨ ∃ p, p ∈ res.2.send ∧ p.1 = q ∧ p.2.term = res.1.term)
 cnt : res.2.send.length + res.2.need.length ≤ 2 * n
def Fine (n i : Nat) (G : Gh) (nd : Nat → Nd) (r : Rf) (c : Nat → Prop) (e : Prop) (res : Rf × Ou) : Prop := ∃ G' nd' l', St n G' nd' i res.1 l' ∧ Go n i G nd G' nd' ∧ OutOk n G' nd' i res.1 res.2 ∧ Ext n i G G' r c e res
section
variable {n i : Nat} {G G' : Gh} {nd nd' : Nat → Nd} {r r' : Rf} {l l' : Log} {o : Ou}
theorem St.step (S : St n G nd i r l) (hI : Inv n G' (upd nd i (ndOf r' l'))) (g : Gle G G') (ht : r.term ≤ r'.term) (hc : r'.term = r.term → r'.role = 2 → r.role = 2 ∧ l' = l) (hn : r'.n = r.n) (hid : r'.id = r.id) (hw : -1 ≤ r'.who) (htk : Trk r'.base r'.bt r'.es l') (hbc : r'.base ≤ r'.commit)
 (hx : r'.role = 3 → (r.role = 2 ∨ r.role = 3) ∧ ∀ q, q < n → q ≠ i → 1 ≤ r'.next q ∧ r'.next q ≤ l'.length + 1) (hV : ∀ T q, q < n → T < (nd q).term → G'.V T q = G.V T q := by intros; rfl) : St n G' (upd nd i (ndOf r' l')) i r' l' ∧ Go n i G nd G' (upd nd i (ndOf r' l')) := by
 refine ⟨⟨hI, upd_same _ _ _, S.lt, hn.trans S.rn, hid.trans S.id, hw, htk, hbc, fun h => (hx h).2⟩, g, ?_, fun j hj => upd_ne _ _ hj, hV⟩
 refine Nle.one ?_ ?_ ?_
 · rw [S.eq]; exact ht
 · rw [S.eq]; exact hc
 · rw [S.eq]; exact fun _ h => (hx h).1
theorem St.irr (S : St n G nd i r l) (h : ndOf r' l = ndOf r l) (hn : r'.n = r.n) (hid : r'.id = r.id) (hw : r'.who = r.who) (h1 : r'.base = r.base) (h2 : r'.bt = r.bt) (h3 : r'.es = r.es) (hx : r'.role = 3 → ∀ q, q < n → q ≠ i → 1 ≤ r'.next q ∧ r'.next q ≤ l.length + 1) : St n G nd i r' l := by
 have hc : r'.commit = r.commit := congrArg Nd.commit h
 exact ⟨S.inv, S.eq.trans h.symm, S.lt, hn.trans S.rn, hid.trans S.id, by rw [hw]; exact S.whoR, by rw [h1, h2, h3]; exact S.trk, by rw [h1, hc]; exact S.bc, hx⟩
theorem St.com (S : St n G nd i r l) : r.commit ≤ l.length ∧ ComC n G r.term (l.take r.commit) := by
 have := S.inv.com i S.lt
 rw [S.eq] at this
 exact this
theorem St.calm (S : St n G nd i r l) (ht : r.term ≤ r'.term) (hwho : (r'.term = r.term ∧ r'.who = r.who) ∨ (r.term < r'.term ∧ r'.who = -1)) (hr : r'.role ≠ 2 ∧ r'.role ≠ 3) (hn : r'.n = r.n) (hid : r'.id = r.id) (h1 : r'.base = r.base) (h2 : r'.bt = r.bt) (h3 : r'.es = r.es)
 (hc : r.base ≤ r'.commit ∧ r'.commit ≤ r.commit) : St n G (upd nd i (ndOf r' l)) i r' l ∧ Go n i G nd G (upd nd i (ndOf r' l)) := by
 have I := S.inv
 have hV : (ndOf r' l).who = G.V (ndOf r' l).term i := by
  have hw := I.who i S.lt
  rw [S.eq] at hw
  rcases hwho with ⟨e1, e2⟩ | ⟨e1, e2⟩
  · show whoN r'.who = G.V r'.term i
    rw [e1, e2]; exact hw
  · show whoN r'.who = G.V r'.term i
    rw [e2]
    cases h : G.V r'.term i with
    | none => rfl
    | some c =>
     have := (I.votes _ i c S.lt h).2.1
     rw [S.eq] at this
     exact absurd this (by show ¬ r'.term ≤ r.term; omega)
 have hcom := S.com
 refine S.step (I.same_log S.lt (by rw [S.eq]; rfl) (by rw [S.eq]; exact ht) hV (fun h => absurd h hr.2) (fun h => absurd h hr.1) ?_) (Gle.refl G) ht (fun _ h => absurd h hr.1) hn hid ?_ (by rw [h1, h2, h3]; exact S.trk) (by rw [h1]; exact hc.1) (fun h => absurd h hr.2)
 · refine ⟨Nat.le_trans hc.2 hcom.1, ?_⟩
   exact (hcom.2.of_pre (take_take_pre _ hc.2)).mono ht
 · rcases hwho with ⟨_, e2⟩ | ⟨_, e2⟩
   · rw [e2]; exact S.whoR
   · rw [e2]; exact Int.le_refl _
theorem Trk.tip {B T : Nat} {es l : Log} (h : Trk B T es l) : tipT T es = lastT l := by
 have hl := h.len
 unfold tipT lastT
 cases he : es.getLast? with
 | none =>
  have : es = [] := by simpa using he
  rw [this] at hl
  simp at hl
  rw [← hl]; exact h.term
 | some e =>
  have hne : es ≠ [] := fun e2 => by rw [e2] at he; cases he
  have h1 : 1 ≤ es.length := List.length_pos_iff.2 hne
  obtain ⟨j, hj⟩ : ∃ j, l.length = j + 1 := ⟨l.length - 1, by omega⟩
  rw [hj, tAt_succ]
  have e1 : l[j]? = some e := by
   rw [List.getLast?_eq_getElem?] at he
   rw [h.es, List.getElem?_drop] at he
   rw [← he]
   congr 1
   have : (List.drop B l).length = es.length := by rw [← h.es]
   rw [this]
   omega
  rw [e1]; rfl
theorem Trk.slice {B T : Nat} {es l : Log} (h : Trk B T es l) {fr : Nat} (h1 : B < fr) (h2 : fr ≤ l.length + 1) : sliceR B es fr 16 = (l.drop (fr - 1)).take (sliceR B es fr 16).length ∧ fr - 1 + (sliceR B es fr 16).length ≤ l.length := by
 have hl := h.len
 unfold sliceR
 by_cases hc : fr ≤ B ∨ B + es.length < fr ∨ 16 < 1
 · rw [if_pos hc]
   refine ⟨by simp, by simp; omega⟩
 · rw [if_neg hc]
   have e : es.drop (fr - B - 1) = l.drop (fr - 1) := by rw [h.es, List.drop_drop]; congr 1; omega
   rw [e]
   constructor
   · rw [List.length_take, List.length_drop]
     by_cases h16 : 16 ≤ l.length - (fr - 1)
     · rw [Nat.min_eq_left h16]
     · rw [Nat.min_eq_right (by omega), List.take_of_length_le (by rw [List.length_drop]; omega), List.take_of_length_le (by rw [List.length_drop]; exact Nat.le_refl _)]
   · rw [List.length_take, List.length_drop]; omega
theorem St.last (S : St n G nd i r l) : r.last = l.length := S.trk.len
theorem St.tipt (S : St n G nd i r l) : r.tipt = lastT l := S.trk.tip
theorem St.plain (S : St n G nd i r l) {x : Nt} {t : Nat} (hk : x.kind ≠ 3 ∧ x.kind ≠ 5 ∧ x.kind ≠ 7) (hy : x.kind = 4 ∨ x.kind = 6 → x.yes = false) : MsgOk n G nd i t { x with term := r.term } := by
 refine ⟨S.lt, by rw [S.eq]; exact Nat.le_refl _, fun h => absurd h hk.1, fun h y => ?_, fun h => absurd h hk.2.1, fun h y => ?_, fun h => absurd h hk.2.2⟩
 · have := hy (.inl h); rw [show x.yes = true from y] at this; cases this
 · have := hy (.inr h); rw [show x.yes = true from y] at this; cases this
theorem OutOk.put (h : OutOk n G nd i r o) {t : Nat} {x : Nt} (ht : t < n) (hm : MsgOk n G nd i t { x with term := r.term }) : OutOk n G nd i r (r.put o t x) := by
 refine ⟨fun p hp => ?_, h.need, h.lead⟩
 rcases List.mem_append.1 hp with hp | hp
 · exact h.send p hp
 · have : p = (t, { x with term := r.term }) := by simpa using hp
   subst this
   exact ⟨ht, hm⟩
theorem mem_others {q : Nat} (h : q ∈ r.others) : q < r.n ∧ q ≠ r.id := by
 unfold Rf.others at h
 rw [List.mem_filter] at h
 exact ⟨List.mem_range.1 h.1, by simpa using h.2⟩
theorem OutOk.fold (h : OutOk n G nd i r o) {f : Ou → Nat → Ou} (hf : ∀ o q, OutOk n G nd i r o → q < n → q ≠ i → OutOk n G nd i r (f o q)) (hn : r.n = n) (hid : r.id = i) : OutOk n G nd i r (r.others.foldl f o) := by
 have key : ∀ (qs : List Nat) (o : Ou), (∀ q ∈ qs, q < n ∧ q ≠ i) → OutOk n G nd i r o → OutOk n G nd i r (qs.foldl f o) := by
  intro qs
  induction qs with
  | nil => intro o _ h; exact h
  | cons q qs ih =>
   intro o hq h
   exact ih _ (fun a ha => hq a (List.mem_cons_of_mem _ ha)) (hf o q h (hq q (List.mem_cons_self ..)).1 (hq q (List.mem_cons_self ..)).2)
 exact key _ o (fun q hq => by have := mem_others hq; rw [hn, hid] at this; exact this) h
theorem St.ask (S : St n G nd i r l) (h : OutOk n G nd i r o) {k : Nat} (hk : k = 1 ∨ (k = 3 ∧ r.role = 2)) : OutOk n G nd i r (r.ask o k) := by
 refine h.fold (fun o q ho hq _ => ho.put hq ?_) S.rn S.id
 rcases hk with rfl | ⟨rfl, hr⟩
 · exact S.plain ⟨by show (1 : Nat) ≠ 3; decide, by show (1 : Nat) ≠ 5; decide, by show (1 : Nat) ≠ 7; decide⟩ (fun h => by rcases h with h | h <;> exact absurd h (by show ¬ (1 : Nat) = _; decide))
 · have hc := S.inv.cand i S.lt (by rw [S.eq]; exact hr)
   rw [S.eq] at hc
   refine ⟨S.lt, by rw [S.eq]; exact Nat.le_refl _, fun _ => ⟨hc.1, fun _ _ => ?_⟩, fun h _ => absurd h (by show ¬ (3 : Nat) = 4; decide), fun h => absurd h (by show ¬ (3 : Nat) = 5; decide), fun h _ => absurd h (by show ¬ (3 : Nat) = 6; decide), fun h => absurd h (by show ¬ (3 : Nat) = 7; decide)⟩
   rw [S.eq]
   exact ⟨S.last.symm, S.tipt.symm⟩
theorem St.addOk (S : St n G nd i r l) (hr : r.role = 3) {q : Nat} (hq : q < n) (hqi : q ≠ i) (hb : r.base < r.next q) : MsgOk n G nd i q { r.addN q with term := r.term } := by
 obtain ⟨x1, x2⟩ := S.next hr q hq hqi
 obtain ⟨l1, l2, _, _⟩ := S.inv.lead i S.lt (by rw [S.eq]; exact hr)
 rw [S.eq] at l1 l2
 have l2' : l = G.LL r.term := l2
 obtain ⟨s1, s2⟩ := S.trk.slice hb x2
 have hcom := S.com
 refine ⟨S.lt, by rw [S.eq]; exact Nat.le_refl _, fun h => absurd h (by show ¬ (5 : Nat) = 3; decide), fun h _ => absurd h (by show ¬ (5 : Nat) = 4; decide), fun _ => ?_, fun h _ => absurd h (by show ¬ (5 : Nat) = 6; decide), fun h => absurd h (by show ¬ (5 : Nat) = 7; decide)⟩
 show G.Ld r.term = some i ∧ r.next q - 1 + (sliceR r.base r.es (r.next q) 16).length ≤ (G.LL r.term).length ∧ sliceR r.base r.es (r.next q) 16 = ((G.LL r.term).drop (r.next q - 1)).take (sliceR r.base r.es (r.next q) 16).length ∧ (termAt r.base r.bt r.es (r.next q - 1)).1 = tAt (G.LL r.term) (r.next q - 1) ∧ r.commit ≤ (G.LL r.term).length ∧ ComC n G r.term ((G.LL r.term).take r.commit)
 rw [← l2']
 refine ⟨l1, s2, s1, ?_, hcom.1, hcom.2⟩
 rw [S.trk.at (by omega) (by omega)]
theorem St.update (S : St n G nd i r l) (h : OutOk n G nd i r o) (hr : r.role = 3) {q : Nat} (hq : q < n) (hqi : q ≠ i) : OutOk n G nd i r (r.update o q) := by
 unfold Rf.update
 by_cases hb : r.next q ≤ r.base
 · rw [if_pos hb]
   refine ⟨h.send, fun k hk => ?_, fun _ => hr⟩
   rcases List.mem_append.1 hk with hk | hk
   · exact h.need k hk
   · have : k = q := by simpa using hk
     rw [this]; exact hq
 · rw [if_neg hb]
   exact h.put hq (S.addOk hr hq hqi (by omega))
theorem St.updates (S : St n G nd i r l) (h : OutOk n G nd i r o) (hr : r.role = 3) : OutOk n G nd i r (r.updates o) :=
 h.fold (fun o q ho hq hqi => S.update ho hr hq hqi) S.rn S.id
theorem count_one (f : Nat → Bool) (i : Nat) : ∀ m, (List.range m).countP (fun q => decide (q = i) || f q) = (if i < m then 1 else 0) + ((List.range m).filter fun q => decide (q ≠ i)).countP f := by
 intro m
 induction m with
 | zero => simp
 | succ m ih =>
  rw [List.range_succ, List.countP_append, List.filter_append, List.countP_append, ih]
  by_cases h : m = i
  · subst h
    simp
    omega
  · by_cases hf : f m = true <;> simp [h, hf] <;> (split <;> split <;> omega)
theorem seeAt_is (r : Rf) : ∀ k, r.seeAt k = r.commit ∨ (r.commit < r.seeAt k ∧ r.seeAt k ≤ k ∧ (termAt r.base r.bt r.es (r.seeAt k)).1 = r.term ∧ r.n < 2 * r.have_ (r.seeAt k)) := by
 intro k
 induction k with
 | zero => exact .inl rfl
 | succ k ih =>
  unfold Rf.seeAt
  by_cases h1 : k + 1 ≤ r.commit
  · rw [if_pos h1]; exact .inl rfl
  · rw [if_neg h1]
    by_cases h2 : (termAt r.base r.bt r.es (k + 1)).1 ≠ r.term
    · rw [if_pos h2]; exact .inl rfl
    · rw [if_neg h2]
      by_cases h3 : r.n < 2 * r.have_ (k + 1)
      · rw [if_pos h3]; exact .inr ⟨by omega, Nat.le_refl _, by simpa using h2, h3⟩
      · rw [if_neg h3]
        rcases ih with h | ⟨a, b, c, d⟩
        · exact .inl h
        · exact .inr ⟨a, by omega, c, d⟩
def ocnt (o : Ou) : Nat := o.send.length + o.need.length
theorem cnt_put (r : Rf) (o : Ou) (t : Nat) (x : Nt) : ocnt (r.put o t x) = ocnt o + 1 := by
 unfold ocnt Rf.put
 rw [List.length_append]
 simp only [List.length_cons, List.length_nil]
 omega
theorem cnt_update (r : Rf) (o : Ou) (q : Nat) : ocnt (r.update o q) = ocnt o + 1 := by
 unfold Rf.update
 split
 · unfold ocnt
   rw [List.length_append]
   simp only [List.length_cons, List.length_nil]
   omega
 · exact cnt_put ..
theorem cnt_fold {f : Ou → Nat → Ou} (hf : ∀ o q, ocnt (f o q) = ocnt o + 1) : ∀ (qs : List Nat) (o : Ou), ocnt (qs.foldl f o) = ocnt o + qs.length := by
 intro qs
 induction qs with
 | nil => intro o; rfl
 | cons q qs ih => intro o; rw [List.foldl_cons, ih, hf, List.length_cons]; omega
theorem others_len (r : Rf) : r.others.length ≤ r.n := by
 unfold Rf.others
 have := List.length_filter_le (fun i => decide (i ≠ r.id)) (List.range r.n)
 rwa [List.length_range] at this
theorem cnt_updates (r : Rf) (o : Ou) : ocnt (r.updates o) ≤ ocnt o + r.n := by
 unfold Rf.updates
 rw [cnt_fold (fun o q => cnt_update r o q)]
 have := others_len r
 omega
theorem cnt_ask (r : Rf) (o : Ou) (k : Nat) : ocnt (r.ask o k) ≤ ocnt o + r.n := by
 unfold Rf.ask
 rw [cnt_fold (fun o q => cnt_put r o q _)]
 have := others_len r
 omega
def Told (n i T : Nat) (o : Ou) : Prop := ∀ q, q < n → q ≠ i → q ∈ o.need ∨ ∃ p, p ∈ o.send ∧ p.1 = q ∧ p.2.term = T
theorem updates_told (r : Rf) (o : Ou) : Told r.n r.id r.term (r.updates o) := by
 have key : ∀ (qs : List Nat) (o : Ou) (q : Nat), (q ∈ qs ∨ (q ∈ o.need ∨ ∃ p, p ∈ o.send ∧ p.1 = q ∧ p.2.term = r.term)) → (q ∈ (qs.foldl (fun o i => r.update o i) o).need ∨ ∃ p, p ∈ (qs.foldl (fun o i => r.update o i) o).send ∧ p.1 = q ∧ p.2.term = r.term) := by
  intro qs
  induction qs with
  | nil =>
   intro o q h
   rcases h with h | h
   · cases h
   · exact h
  | cons a qs ih =>
   intro o q h
   rw [List.foldl_cons]
   apply ih
   unfold Rf.update
   rcases h with h | h
   · rcases List.mem_cons.1 h with h | h
     · subst h
       right
       split
       · exact .inl (List.mem_append.2 (.inr (List.mem_singleton.2 rfl)))
       · exact .inr ⟨_, List.mem_append.2 (.inr (List.mem_singleton.2 rfl)), rfl, rfl⟩
     · exact .inl h
   · right
     split
     · rcases h with h | h
       · exact .inl (List.mem_append.2 (.inl h))
       · exact .inr h
     · rcases h with h | ⟨p, hp, h⟩
       · exact .inl h
       · exact .inr ⟨p, List.mem_append.2 (.inl hp), h⟩
 intro q hq hne
 refine key _ o q (.inl ?_)
 unfold Rf.others
 exact List.mem_filter.2 ⟨List.mem_range.2 hq, by simpa using hne⟩
theorem Ext.plain {c : Nat → Prop} {e : Prop} {res : Rf × Ou} (hK : G'.K = G.K) (hL : G'.LL = G.LL) (hr : res.1.role = 3 → r.role = 3 ∧ r.term = res.1.term) (hc : ocnt res.2 ≤ 2 * n) : Ext n i G G' r c e res :=
 ⟨fun T h => .inl (by rw [← hK]; exact h), fun B h T => by rw [hL]; exact Nat.le_succ_of_le (h T), fun h => .inl (hr h), hc⟩
theorem St.two (S : St n G nd i r l) : 2 ≤ 2 * n := by have := S.lt; omega
def kG (G : Gh) (T : Nat) : Gh := { G with K := fun U => G.K U ∨ U = T }
theorem kG_le (G : Gh) (T : Nat) : Gle G (kG G T) := ⟨fun _ => List.prefix_rfl, fun _ _ => rfl, fun _ _ h => h, fun _ _ _ h => h, fun _ _ _ h => h, fun _ _ => Nat.le_refl _, fun _ h => .inl h⟩
theorem Inv.kG (I : Inv n G nd) (T : Nat) : Inv n (kG G T) nd :=
 ⟨I.good, I.below, I.ld0, I.ldc, I.votes, I.who, I.quo, I.vlg, I.vcand, I.ackb, I.keep, I.vkeep, I.lead, I.cand, fun i hi => ⟨(I.com i hi).1, (I.com i hi).2.gle (kG_le G T)⟩⟩
theorem St.see (S : St n G nd i r l) (hr : r.role = 3) : ∃ G', St n G' (upd nd i (ndOf r.see l)) i r.see l ∧ Go n i G nd G' (upd nd i (ndOf r.see l)) ∧ G'.LL = G.LL ∧ ∀ T, G'.K T → G.K T ∨ (T = r.term ∧ ∃ k, 1 ≤ k ∧ r.n < 2 * r.have_ k) := by
 have I := S.inv
 have hcom := S.com
 have hlead := I.lead i S.lt (by rw [S.eq]; exact hr)
 have hw := I.who i S.lt
 rw [S.eq] at hlead hw
 have hcc : ∃ G', Inv n G' nd ∧ Gle G G' ∧ (∀ T q, q < n → T < (nd q).term → G'.V T q = G.V T q) ∧ G'.LL = G.LL ∧ (∀ T, G'.K T → G.K T ∨ (T = r.term ∧ ∃ k, 1 ≤ k ∧ r.n < 2 * r.have_ k)) ∧ r.seeAt r.last ≤ l.length ∧ ComC n G' r.term (l.take (r.seeAt r.last)) ∧ r.commit ≤ r.seeAt r.last := by
  rcases seeAt_is r r.last with h | ⟨h1, h2, h3, h4⟩
  · rw [h]; exact ⟨G, I, Gle.refl G, fun _ _ _ _ => rfl, rfl, fun _ h => .inl h, hcom.1, hcom.2, Nat.le_refl _⟩
  · rw [S.last] at h2
    refine ⟨RS.kG G r.term, I.kG r.term, kG_le G _, fun _ _ _ _ => rfl, rfl, fun T h => ?_, by rw [S.last]; exact h2, ?_, by omega⟩
    · rcases h with h | h
      · exact .inl h
      · exact .inr ⟨h, _, by omega, h4⟩
    rw [S.last] at h1 h3 h4 ⊢
    have hb := S.bc
    rw [S.trk.at (by omega) h2] at h3
    have := (I.kG r.term).commits (i := i) (k := r.seeAt l.length) S.lt (by rw [S.eq]; exact hr) (by omega) (by rw [S.eq]; exact h2) (by rw [S.eq]; exact h3) (by
     rw [S.eq]
     show n < 2 * _
     have e := count_one (fun q => decide (r.seeAt l.length ≤ (ndOf r l).mt q)) i n
     rw [e, if_pos S.lt]
     unfold Rf.have_ Rf.others at h4
     rw [S.rn, S.id] at h4
     exact h4) (by rw [S.eq]; exact .inr rfl)
    rw [S.eq] at this
    exact this
 obtain ⟨G', I', g, gv, gL, gK, c1, c2, c3⟩ := hcc
 have hlead' := I'.lead i S.lt (by rw [S.eq]; exact hr)
 have hw' := I'.who i S.lt
 rw [S.eq] at hlead' hw'
 refine ⟨G', ?_⟩
 have := S.step (r' := r.see) (l' := l) (G' := G') (I'.same_log S.lt (by rw [S.eq]; rfl) (by rw [S.eq]; exact Nat.le_refl _) hw' (fun _ => ⟨by rw [S.eq]; exact hr, by rw [S.eq]; rfl, hlead'.2.2.2⟩) (fun h => absurd h (by show ¬ r.role = 2; omega)) ⟨c1, c2⟩) g (Nat.le_refl _) (fun _ h => absurd h (by show ¬ r.role = 2; omega)) rfl rfl S.whoR S.trk (by
  show r.base ≤ r.seeAt r.last
  have := S.bc
  omega) (fun _ => ⟨.inr hr, S.next hr⟩) gv
 exact ⟨this.1, this.2, gL, gK⟩
theorem len_bound (I : Inv n G nd) {j : Nat} (hj : j < n) {B : Nat} (h : ∀ T, (G.LL T).length ≤ B) : (nd j).log.length ≤ B := by
 by_cases e : 1 ≤ (nd j).log.length
 · exact Nat.le_trans (pre_len ((I.good j hj).last e)) (h _)
 · omega
theorem St.add (S : St n G nd i r l) (hr : r.role = 3) (d : List UInt8) : ∃ G', St n G' (upd nd i (ndOf (r.add d) (l ++ [(r.term, d)]))) i (r.add d) (l ++ [(r.term, d)]) ∧ Go n i G nd G' (upd nd i (ndOf (r.add d) (l ++ [(r.term, d)]))) ∧ G'.K = G.K ∧ ∀ B, (∀ T, T ≠ r.term → (G.LL T).length ≤ B + 1) → l.length ≤ B → ∀ T, (G'.LL T).length ≤ B + 1 := by
 have I := S.inv
 have h := I.append (i := i) (x := ndOf (r.add d) (l ++ [(r.term, d)])) (e := (r.term, d)) S.lt (by rw [S.eq]; exact hr) (by rw [S.eq]; rfl) (by rw [S.eq]; rfl) rfl (by rw [S.eq]; rfl) (by rw [S.eq]; rfl) hr (by rw [S.eq]; rfl)
 have hb := S.trk.base
 have st := S.step (r' := r.add d) (l' := l ++ [(r.term, d)]) h.2 h.1 (Nat.le_refl _) (fun _ h => absurd h (by show ¬ r.role = 2; omega)) rfl rfl S.whoR (by
  refine ⟨?_, ?_, ?_⟩
  · show r.base ≤ _; rw [List.length_append]; omega
  · show r.es ++ [(r.term, d)] = (l ++ [(r.term, d)]).drop r.base
    rw [List.drop_append_of_le_length hb, S.trk.es]
  · show r.bt = _
    rw [S.trk.term]
    exact tAt_prefix (List.prefix_append _ _) hb) S.bc (fun _ => ⟨.inr hr, fun q hq hne => by
  obtain ⟨a, b⟩ := S.next hr q hq hne
  refine ⟨a, ?_⟩
  show r.next q ≤ _
  rw [List.length_append]
  omega⟩)
 refine ⟨_, st.1, st.2, rfl, fun B hB hl T => ?_⟩
 by_cases e : T = r.term
 · subst e
   show ((addG G r.term i (l ++ [(r.term, d)])).LL r.term).length ≤ B + 1
   rw [addG_LL, List.length_append]
   show l.length + 1 ≤ B + 1
   omega
 · show ((addG G r.term i (l ++ [(r.term, d)])).LL T).length ≤ B + 1
   rw [addG_LLne G i _ e]
   exact hB T e
theorem St.pulse (S : St n G nd i r l) : St n G nd i r.pulse l := S.irr rfl rfl rfl rfl rfl rfl rfl S.next
theorem have_none {r : Rf} (hm : ∀ q, q ∈ r.others → r.mt q = 0) {k : Nat} (hk : 1 ≤ k) : r.have_ k = 1 := by
 unfold Rf.have_
 rw [List.countP_eq_zero.2]
 intro q hq
 rw [hm q hq]
 simp
 omega
theorem St.lead (S : St n G nd i r l) (hr : r.role = 2) (hm : r.most = true) (ho : OutOk n G nd i r o) (hcnt : ocnt o ≤ n) {r0 : Rf} {c : Nat → Prop} {e : Prop} (he : n < 2 ∨ e) : Fine n i G nd r0 c e (r.lead o) := by
 have I := S.inv
 have hmaj : Maj n (nd i).sides := by
  rw [S.eq]
  have : r.n < 2 * (List.range r.n).countP r.sides := by simpa [Rf.most] using hm
  rw [S.rn] at this
  exact this
 have hcom := S.com
 have hlast := S.last
 have hel := I.elect (i := i) (x := ndOf r.lead0 l) S.lt (by rw [S.eq]; exact hr) hmaj (by rw [S.eq]; rfl) (by rw [S.eq]; rfl) (by rw [S.eq]; rfl) (by rw [S.eq]; rfl) rfl (fun q hq hne => by
  show (if q < r.n ∧ q ≠ r.id then 0 else r.mt q) = 0
  rw [if_pos ⟨by rw [S.rn]; exact hq, by rw [S.id]; exact hne⟩])
 have hfree := I.free S.lt (by rw [S.eq]; exact hr) hmaj
 rw [S.eq] at hfree
 have g0 := leadG_le I (T := r.term) (i := i) l S.lt hfree
 obtain ⟨S0, k0⟩ := S.step hel g0 (Nat.le_refl _) (fun _ h => absurd h (by show ¬ (3 : Nat) = 2; decide)) rfl rfl S.whoR S.trk S.bc (fun _ => ⟨.inl hr, fun q hq hne => by
  show 1 ≤ (if q < r.n ∧ q ≠ r.id then r.last + 1 else r.next q) ∧ (if q < r.n ∧ q ≠ r.id then r.last + 1 else r.next q) ≤ _
  rw [if_pos ⟨by rw [S.rn]; exact hq, by rw [S.id]; exact hne⟩, hlast]
  omega⟩)
 obtain ⟨G1, S1, k1, K1, z1⟩ := S0.add rfl []
 have S2 := S1.pulse
 obtain ⟨G3, S3, k3, L3, K3⟩ := S2.see rfl
 have h1 : OutOk n G nd i r (r.lead0.addO o []) := ⟨ho.send, ho.need, ho.lead⟩
 have h2 := h1.go I ((k0.trans k1).trans k3) (r' := r.lead1) (fun h => by rw [hr] at h; cases h)
 refine ⟨G3, _, _, S3, (k0.trans k1).trans k3, S3.updates (o := r.lead0.addO o []) h2 rfl, ?_, ?_, ?_, ?_⟩
 · intro T hT
   rcases K3 T hT with h | ⟨h, k, hk1, hk2⟩
   · rw [K1] at h; exact .inl h
   · refine .inr ⟨h, rfl, .inl ?_⟩
     rw [have_none (fun q hq => by
      obtain ⟨a, b⟩ := mem_others hq
      show (if q < r.n ∧ q ≠ r.id then 0 else r.mt q) = 0
      exact if_pos ⟨a, b⟩) hk1] at hk2
     have hn : (r.lead0.add []).pulse.n = n := S.rn
     rw [hn] at hk2
     omega
 · intro B hB T
   rw [L3]
   refine z1 B (fun U hU => ?_) ?_ T
   · show ((leadG G r.term i l).LL U).length ≤ B + 1
     rw [leadG_LLne G i l (show U ≠ r.term from hU)]
     exact Nat.le_succ_of_le (hB U)
   · have := len_bound I S.lt hB
     rw [S.eq] at this
     exact this
 · intro _
   right
   rcases he with h | h
   · exact .inl h
   · refine .inr ⟨h, hfree, ?_⟩
     have := updates_told r.lead1 (r.lead0.addO o [])
     have e1 : r.lead1.n = n := S.rn
     have e2 : r.lead1.id = i := S.id
     rw [e1, e2] at this
     exact this
 · have := cnt_updates r.lead1 (r.lead0.addO o [])
   have e1 : r.lead1.n = n := S.rn
   rw [e1] at this
   have e2 : ocnt (r.lead0.addO o []) = ocnt o := rfl
   show ocnt (r.lead1.updates (r.lead0.addO o [])) ≤ 2 * n
   omega
theorem alone_most {r : Rf} (h : r.alone.most = true) : r.n < 2 := by
 have h1 : r.n < 2 * (List.range r.n).countP (fun q => decide (q = r.id)) := by
  have : r.alone.most = decide (r.n < 2 * (List.range r.n).countP (fun q => decide (q = r.id))) := rfl
  rw [this] at h
  exact of_decide_eq_true h
 have h2 : ∀ m, (List.range m).countP (fun q => decide (q = r.id)) ≤ 1 := by
  intro m
  have := count_one (fun _ => false) r.id m
  simp only [Bool.or_false, List.countP_false] at this
  rw [this]
  split <;> simp
 have := h2 r.n
 omega
theorem St.tick (S : St n G nd i r l) (h64 : r.term + 1 < 18446744073709551616) (d : Nat) : Fine n i G nd r (fun _ => False) False (r.tick d) := by
 have I := S.inv
 have h2n := S.two
 have hup : ∀ (r1 : Rf), r1.n = r.n → ocnt (r1.updates Ou.none) ≤ 2 * n := fun r1 e => by
  have := cnt_updates r1 Ou.none
  have e0 : ocnt Ou.none = 0 := rfl
  rw [e, S.rn] at this
  omega
 unfold Rf.tick
 by_cases h3 : r.role = 3
 · rw [if_pos h3]
   have S1 : St n G nd i { r with beat := r.beat - 1 } l := S.irr rfl rfl rfl rfl rfl rfl rfl S.next
   dsimp only
   split
   · exact ⟨G, nd, l, S1.pulse, Go.refl .., S1.pulse.updates (OutOk.none_ ..) h3, Ext.plain rfl rfl (fun _ => ⟨h3, rfl⟩) (hup _ rfl)⟩
   · exact ⟨G, nd, l, S1, Go.refl .., OutOk.none_ .., Ext.plain rfl rfl (fun _ => ⟨h3, rfl⟩) (Nat.zero_le _)⟩
 · rw [if_neg h3]
   have S1 : St n G nd i { r with quiet := min (r.quiet + 1) (r.T : Int), left := r.left - 1 } l := S.irr rfl rfl rfl rfl rfl rfl rfl S.next
   dsimp only
   split
   · exact ⟨G, nd, l, S1, Go.refl .., OutOk.none_ .., Ext.plain rfl rfl (fun h => absurd h h3) (Nat.zero_le _)⟩
   · split
     · rename_i h0
       obtain ⟨S2, k2⟩ := S1.calm (r' := (({ r with quiet := min (r.quiet + 1) (r.T : Int), left := 2 * (r.T : Int), role := 1, round := r.round + 1 } : Rf).alone)) (Nat.le_refl _) (.inl ⟨rfl, rfl⟩) ⟨by show ¬ (1 : Nat) = 2; decide, by show ¬ (1 : Nat) = 3; decide⟩ rfl rfl rfl rfl rfl ⟨S.bc, Nat.le_refl _⟩
       refine ⟨G, _, l, S2, k2, S2.ask (OutOk.none_ ..) (.inl rfl), Ext.plain rfl rfl (fun h => absurd h (by show ¬ (1 : Nat) = 3; decide)) ?_⟩
       have := cnt_ask (({ r with quiet := min (r.quiet + 1) (r.T : Int), left := 2 * (r.T : Int), role := 1, round := r.round + 1 } : Rf).alone) Ou.none 1
       refine Nat.le_trans this ?_
       show 0 + r.n ≤ 2 * n
       rw [S.rn]; omega
     · split
       · rename_i h0 h1
         have hV : G.V (r.term + 1) i = none := by
          cases h : G.V (r.term + 1) i with
          | none => rfl
          | some c =>
           have := (I.votes _ i c S.lt h).2.1
           rw [S.eq] at this
           exact absurd this (by show ¬ r.term + 1 ≤ r.term; omega)
         have hr2 : ∀ r2 : Rf, r2 = (({ r with quiet := min (r.quiet + 1) (r.T : Int), left := (r.T : Int), role := 2, who := (r.id : Int), leader := -1, term := r.term + 1 } : Rf).alone) → ∃ G' nd', St n G' nd' i r2 l ∧ Go n i G nd G' nd' ∧ G'.K = G.K ∧ G'.LL = G.LL := by
          rintro r2 rfl
          have hv := I.vote (q := i) (c := i) (x := ndOf (({ r with quiet := min (r.quiet + 1) (r.T : Int), left := (r.T : Int), role := 2, who := (r.id : Int), leader := -1, term := r.term + 1 } : Rf).alone) l) S.lt S.lt (by rw [S.eq]; exact Nat.le_succ _) (by rw [S.eq]; rfl) hV (by show whoN (r.id : Int) = some i; unfold whoN; rw [if_neg (by omega), S.id]; simp) (by rw [S.eq]; rfl)
           (by show ¬ (2 : Nat) = 3; decide) (fun _ => ⟨rfl, by rw [S.eq]; exact Nat.lt_succ_self _, fun j _ hj => by have : decide (j = r.id) = true := hj; rw [S.id] at this; simpa using this⟩) (fun h => absurd rfl h) (fun _ => by rw [S.eq]; exact Nat.lt_succ_self _)
          have gv := voteG_le I i (nd i).log S.lt hV
          have st := S.step hv gv (Nat.le_succ _) (fun h _ => absurd h (by show ¬ r.term + 1 = r.term; omega)) rfl rfl (by show (-1 : Int) ≤ (r.id : Int); omega) S.trk S.bc (fun h => absurd h (by show ¬ (2 : Nat) = 3; decide)) (fun T q hq ht => voteG_Vne _ _ _ (by
           rintro ⟨a, rfl⟩
           rw [S.eq] at ht
           have ht' : T < r.term := ht
           have a' : T = r.term + 1 := a
           omega))
          exact ⟨_, _, st.1, st.2, rfl, rfl⟩
         obtain ⟨G2, nd2, S2, k2, K2, L2⟩ := hr2 _ rfl
         have O2 := S2.ask (OutOk.none_ n G2 nd2 i _) (.inr ⟨rfl, rfl⟩)
         have hc2 := cnt_ask (({ r with quiet := min (r.quiet + 1) (r.T : Int), left := (r.T : Int), role := 2, who := (r.id : Int), leader := -1, term := r.term + 1 } : Rf).alone) Ou.none 3
         have hc2' : ocnt ((({ r with quiet := min (r.quiet + 1) (r.T : Int), left := (r.T : Int), role := 2, who := (r.id : Int), leader := -1, term := r.term + 1 } : Rf).alone).ask Ou.none 3) ≤ n := by
          refine Nat.le_trans hc2 ?_
          show 0 + r.n ≤ n
          rw [S.rn]; omega
         split
         · rename_i hm
           have hn2 := alone_most hm
           have hn2' : r.n < 2 := hn2
           rw [S.rn] at hn2'
           obtain ⟨G3, nd3, l3, S3, k3, O3, E3⟩ := S2.lead (r0 := r) (c := fun _ => False) (e := False) rfl hm O2 hc2' (.inl hn2')
           refine ⟨G3, nd3, l3, S3, k2.trans k3, O3, ?_, ?_, ?_, E3.cnt⟩
           · intro T hT; have := E3.k T hT; rw [K2] at this; exact this
           · intro B hB T; exact E3.sz B (fun T => by rw [L2]; exact hB T) T
           · intro _; exact .inr (.inl hn2')
         · refine ⟨G2, nd2, l, S2, k2, O2, Ext.plain K2 L2 (fun h => absurd h (by show ¬ (2 : Nat) = 3; decide)) ?_⟩
           exact Nat.le_trans hc2' (by omega)
       · obtain ⟨S2, k2⟩ := S1.calm (r' := (({ r with quiet := min (r.quiet + 1) (r.T : Int), left := r.left - 1 } : Rf).follow d)) (Nat.le_refl _) (.inl ⟨rfl, rfl⟩) ⟨by show ¬ (0 : Nat) = 2; decide, by show ¬ (0 : Nat) = 3; decide⟩ rfl rfl rfl rfl rfl ⟨S.bc, Nat.le_refl _⟩
         exact ⟨G, _, l, S2, k2, OutOk.none_ .., Ext.plain rfl rfl (fun h => absurd h (by show ¬ (0 : Nat) = 3; decide)) (Nat.zero_le _)⟩
end
end Go.Proofs.Yteellfgiejnigaa.RS
