/- Forms and bounds in the world. -/
import Derived.Test.YteellfgiejnigaaQnS16
namespace Go.Proofs.Yteellfgiejnigaa.RS
set_option linter.unusedVariables false
/-- All that a walk wants. -/
structure Full (w : W) (B : Nat) : Prop where
  small : Small w B
  fm : ∀ i, i < w.n → Fm w.T B (w.r i)
  mf : ∀ m, m ∈ w.mails → Mf B m.x
/-- What it wants of a node. -/
structure Nf (w : W) (B : Nat) (i : Nat) : Prop where
  n : (w.r i).n = w.n
  id : (w.r i).id = i
  who : -1 ≤ (w.r i).who ∧ (w.r i).who < (w.n : Int)
  bc : (w.r i).base ≤ (w.r i).commit
  cl : (w.r i).commit ≤ (w.r i).last
  last : (w.r i).last ≤ B
  cm : (w.r i).base ≤ w.cm.length
  next : (w.r i).role = 3 → ∀ q, q < w.n → q ≠ i → 1 ≤ (w.r i).next q ∧ (w.r i).next q ≤ (w.r i).last + 1
section
variable {w : W} {B : Nat}
theorem WI.nf {G : Gh} {nd : Nat → Nd} {l : Nat → Log} (I : WI w G nd l) (Z : Sz w G B) {i : Nat} (hi : i < w.n) : Nf w B i := by
  have S := I.st i hi
  have hlen := len_bound I.inv hi Z.log
  rw [S.eq] at hlen
  refine ⟨S.rn, S.id, ⟨S.whoR, ?_⟩, S.bc, by rw [S.last]; exact S.com.1, by rw [S.last]; exact hlen, I.bs i hi, fun hr => by rw [S.last]; exact S.next hr⟩
  have hw := I.inv.who i hi
  rw [S.eq] at hw
  have hw' : whoN (w.r i).who = G.V (w.r i).term i := hw
  by_cases e : (w.r i).who = -1
  · rw [e]; omega
  · unfold whoN at hw'
    rw [if_neg e] at hw'
    have := (I.inv.votes _ i _ hi hw'.symm).1
    have hR := S.whoR
    omega
theorem Full.nf (F : Full w B) {i : Nat} (hi : i < w.n) : Nf w B i := by
  obtain ⟨_, _, G, nd, l, I, Z⟩ := F.small
  exact I.nf Z hi
theorem Full.mono (F : Full w B) {C : Nat} (h : B ≤ C) : Full w C := ⟨F.small.mono h, fun i hi => (F.fm i hi).mono h, fun m hm => (F.mf m hm).mono h⟩
theorem Full.mail (F : Full w B) {m : Mail} (hm : m ∈ w.mails) : m.from_ < w.n ∧ m.to < w.n ∧ Mf B m.x ∧ (m.x.kind = 5 → m.x.index + m.x.list.length ≤ B) := by
  obtain ⟨_, _, G, nd, l, I, Z⟩ := F.small
  obtain ⟨a, b, c, _⟩ := I.ml m hm
  exact ⟨a, b, F.mf m hm, fun h => Nat.le_trans (c.add h).2.1 (Z.log _)⟩
theorem took_fm {i : Nat} {res : Rf × Ou} (hfm : ∀ j, j < w.n → Fm w.T B (w.r j)) (hmf : ∀ m, m ∈ w.mails → Mf B m.x) (h : Fo w.T (B + 1) res) : (∀ j, j < w.n → Fm w.T (B + 1) ((w.took i res).r j)) ∧ ∀ m, m ∈ (w.took i res).mails → Mf (B + 1) m.x := by
  refine ⟨fun j hj => ?_, fun m hm => ?_⟩
  · by_cases e : j = i
    · subst e; rw [W.took_same]; exact h.1
    · rw [W.took_ne _ _ e]; exact (hfm j hj).mono (Nat.le_succ B)
  · rw [W.took_mails] at hm
    rcases mem_room hm with hm | hm
    · rcases mem_room hm with hm | hm
      · exact (hmf m hm).mono (Nat.le_succ B)
      · obtain ⟨p, hp, rfl⟩ := List.mem_map.1 hm
        exact h.2 p hp
    · obtain ⟨q, _, rfl⟩ := List.mem_map.1 hm
      exact h.1.shot
/-- A tick, in the world. -/
theorem Full.tickOne (F : Full w B) (hB : B + 1 < 18446744073709551615) (hS : Seen w) {i : Nat} (hi : i < w.n) (d : Nat) : Full (w.tickOne i d) (B + 1) ∧ Seen (w.tickOne i d) := by
  unfold W.tickOne
  by_cases hu : w.up i = true
  · rw [if_pos hu]
    obtain ⟨n1, n7, G, nd, l, I, Z⟩ := F.small
    obtain ⟨G', nd', l', I', Z', S'⟩ := I.tick Z hB hS hi hu d
    obtain ⟨a, b⟩ := took_fm (i := i) F.fm F.mf ((F.fm i hi).tick (F.nf hi).last d)
    exact ⟨⟨⟨n1, n7, G', nd', l', I', Z'⟩, a, b⟩, S'⟩
  · rw [if_neg hu]
    exact ⟨F.mono (Nat.le_succ B), hS⟩
theorem Full.heard (F : Full w B) {m : Mail} (hm : m ∈ w.mails) (d : Nat) : Fo w.T (B + 1) (w.heard m d) := by
  obtain ⟨hf, ht, hx, hth⟩ := F.mail hm
  unfold W.heard
  split
  · exact ⟨(F.fm _ ht).mono (Nat.le_succ B), of_none⟩
  · exact (F.fm _ ht).hear (F.nf ht).last hx hth (by rw [(F.nf ht).n]; exact hf) d
theorem Full.arrive (F : Full w B) {m : Mail} (hm : m ∈ w.mails) {ms : List Mail} (hms : ∀ x, x ∈ ms → x ∈ w.mails) (d : Nat) (hs : Small ((w.with_ ms).arrive m d) (B + 1)) : Full ((w.with_ ms).arrive m d) (B + 1) := by
  have h := took_fm (w := w.with_ ms) (i := m.to) F.fm (fun x hx => F.mf x (hms x hx)) (F.heard hm d)
  refine ⟨hs, ?_, ?_⟩
  · unfold W.arrive
    split
    · exact h.1
    · exact fun i hi => (F.fm i hi).mono (Nat.le_succ B)
  · unfold W.arrive
    split
    · exact h.2
    · exact fun x hx => (F.mf x (hms x hx)).mono (Nat.le_succ B)
/-- The first mail, in event 8. -/
theorem Full.first (F : Full w B) {rem : Nat} {m : Mail} {ms : List Mail} (hF : FI w (rem + 1)) (h200 : rem ≤ 200) (hB : B + 1 < 18446744073709551615) (hm : w.mails = m :: ms) (d : Nat) : FI ((w.with_ ms).arrive m d) rem ∧ Full ((w.with_ ms).arrive m d) (B + 1) := by
  obtain ⟨a, b⟩ := first_ok hF h200 hB hm F.small d
  exact ⟨a, F.arrive (by rw [hm]; exact List.mem_cons_self ..) (fun x hx => by rw [hm]; exact List.mem_cons_of_mem _ hx) d b⟩
theorem Full.ticks (dr : Nat → Nat) : ∀ (k h : Nat) (w : W) (B : Nat), h + k ≤ w.n → B + k < 18446744073709551615 → Seen w → Full w B → Full (w.ticks dr k h) (B + k) ∧ Seen (w.ticks dr k h) := by
  intro k
  induction k with
  | zero => intro h w B _ _ hS F; exact ⟨F, hS⟩
  | succ k ih =>
    intro h w B hk hB hS F
    obtain ⟨a, b⟩ := F.tickOne (by omega) hS (i := h) (by omega) (dr h)
    have hn : (w.tickOne h (dr h)).n = w.n := by unfold W.tickOne; split <;> rfl
    have := ih (h + 1) _ (B + 1) (by rw [hn]; omega) (by omega) b a
    rw [show B + (k + 1) = (B + 1) + k by omega]
    exact this
theorem Full.flow (dr : Nat → Nat) : ∀ (rem h : Nat) (w : W) (B : Nat), rem ≤ 200 → B + rem < 18446744073709551615 → FI w rem → Full w B → Full (w.flow dr rem h) (B + rem) := by
  intro rem
  induction rem with
  | zero => intro h w B _ _ _ F; exact F
  | succ rem ih =>
    intro h w B h200 hB hF F
    show Full (match w.mails with | [] => w | m :: ms => W.flow dr rem (h + 1) ((w.with_ ms).arrive m (dr h))) (B + (rem + 1))
    cases hm : w.mails with
    | nil => exact F.mono (by omega)
    | cons m ms =>
      obtain ⟨a, b⟩ := F.first hF (by omega) (by omega) hm (dr h)
      rw [show B + (rem + 1) = (B + 1) + rem by omega]
      exact ih (h + 1) _ (B + 1) (by omega) (by omega) a b
structure Kw (w : W) (C : Nat) (w' : W) : Prop where
  fm : ∀ i, i < w.n → Fm w.T C (w'.r i)
  mf : ∀ m, m ∈ w'.mails → Mf C m.x
  n : w'.n = w.n
  T : w'.T = w.T
/-- Between events. -/
structure Bf (w : W) (B : Nat) : Prop where
  full : Full w B
  saw : ∀ j, j < w.n → Saw w j
theorem Bf.bd (h : Bf w B) : Bd w B := ⟨h.full.small, h.saw⟩
theorem Bf.event (h : Bf w B) (hB : B + 207 < 18446744073709551615) (e : Ev) (hi : e.i < w.n) (hk : w.mails ≠ [] → e.k < w.mails.length) : Full (w.event e) (B + 207) := by
  have hs := h.bd.event hB e hi hk
  have F := h.full
  have n7 : w.n ≤ 7 := F.small.2.1
  have up : (∀ i, i < w.n → Fm w.T (B + 207) (w.r i)) ∧ ∀ m, m ∈ w.mails → Mf (B + 207) m.x := ⟨fun i hi => (F.fm i hi).mono (by omega), fun m hm => (F.mf m hm).mono (by omega)⟩
  have hat : w.mails ≠ [] → w.mailAt e.k ∈ w.mails := fun hne => by
    unfold W.mailAt
    have := hk hne
    rw [List.getD_eq_getElem?_getD, List.getElem?_eq_getElem this]
    exact List.getElem_mem this
  have hsub : ∀ m, m ∈ w.mails.eraseIdx e.k → m ∈ w.mails := fun m hm => List.mem_of_mem_eraseIdx hm
  have set_ : ∀ {r' : Rf}, Fm w.T (B + 207) r' → ∀ j, j < w.n → Fm w.T (B + 207) ((w.set e.i r').r j) := fun {r'} f j hj => by
    show Fm w.T (B + 207) (if j = e.i then r' else w.r j)
    split
    · exact f
    · exact up.1 j hj
  have key : Kw w (B + 207) (w.event e) := by
    unfold W.event
    split
    · obtain ⟨a, _⟩ := F.tickOne (by omega) h.bd.seen hi e.draw
      have hn : (w.tickOne e.i e.draw).n = w.n ∧ (w.tickOne e.i e.draw).T = w.T := by unfold W.tickOne; split <;> exact ⟨rfl, rfl⟩
      have a' := a.mono (C := B + 207) (by omega)
      exact ⟨fun i hi => by have := a'.fm i (by rw [hn.1]; exact hi); rw [hn.2] at this; exact this, a'.mf, hn.1, hn.2⟩
    split
    · split
      · exact ⟨up.1, up.2, rfl, rfl⟩
      · rename_i hne
        have t := took_fm (w := w.with_ (w.mails.eraseIdx e.k)) (i := (w.mailAt e.k).to) F.fm (fun x hx => F.mf x (hsub x hx)) (F.heard (hat hne) e.draw)
        unfold W.arrive
        split
        · exact ⟨fun i hi => (t.1 i hi).mono (by omega), fun m hm => (t.2 m hm).mono (by omega), rfl, rfl⟩
        · exact ⟨up.1, fun m hm => up.2 m (hsub m hm), rfl, rfl⟩
    split
    · split
      · exact ⟨up.1, up.2, rfl, rfl⟩
      · exact ⟨up.1, fun m hm => up.2 m (hsub m hm), rfl, rfl⟩
    split
    · split
      · rename_i hne
        refine ⟨up.1, fun m hm => ?_, rfl, rfl⟩
        rcases List.mem_append.1 hm with hm | hm
        · exact up.2 m hm
        · rw [List.mem_singleton.1 hm]; exact up.2 _ (hat hne.1)
      · exact ⟨up.1, up.2, rfl, rfl⟩
    split
    · split
      · have t := took_fm (i := e.i) F.fm F.mf ((F.fm _ hi).propose (F.nf hi).last e.data)
        exact ⟨fun i hi => (t.1 i hi).mono (by omega), fun m hm => (t.2 m hm).mono (by omega), rfl, rfl⟩
      · exact ⟨up.1, up.2, rfl, rfl⟩
    split
    · exact ⟨set_ (((F.fm _ hi).crash e.draw).mono (by omega)), up.2, rfl, rfl⟩
    split
    · exact ⟨set_ (((F.fm _ hi).crash e.draw).mono (by omega)), up.2, rfl, rfl⟩
    split
    · exact ⟨set_ ((F.fm _ hi).pack.mono (by omega)), up.2, rfl, rfl⟩
    split
    · obtain ⟨a, s⟩ := Full.ticks (dr e.draw) w.n 0 w B (by omega) (by omega) h.bd.seen F
      have b := (Full.flow (dr e.draw) 200 0 _ (B + w.n) (Nat.le_refl _) (by omega) (s.fi 200) a).mono (C := B + 207) (by omega)
      have tn : ∀ (k h : Nat) (w : W), (w.ticks (dr e.draw) k h).n = w.n ∧ (w.ticks (dr e.draw) k h).T = w.T := by
        intro k
        induction k with
        | zero => intro h w; exact ⟨rfl, rfl⟩
        | succ k ih =>
          intro h w
          have := ih (h + 1) (w.tickOne h (dr e.draw h))
          have e2 : (w.tickOne h (dr e.draw h)).n = w.n ∧ (w.tickOne h (dr e.draw h)).T = w.T := by unfold W.tickOne; split <;> exact ⟨rfl, rfl⟩
          exact ⟨this.1.trans e2.1, this.2.trans e2.2⟩
      have fn : ∀ (k h : Nat) (w : W), (w.flow (dr e.draw) k h).n = w.n ∧ (w.flow (dr e.draw) k h).T = w.T := by
        intro k
        induction k with
        | zero => intro h w; exact ⟨rfl, rfl⟩
        | succ k ih =>
          intro h w
          show (match w.mails with | [] => w | m :: ms => W.flow (dr e.draw) k (h + 1) ((w.with_ ms).arrive m (dr e.draw h)) : W).n = w.n ∧ (match w.mails with | [] => w | m :: ms => W.flow (dr e.draw) k (h + 1) ((w.with_ ms).arrive m (dr e.draw h)) : W).T = w.T
          cases w.mails with
          | nil => exact ⟨rfl, rfl⟩
          | cons m ms =>
            have := ih (h + 1) ((w.with_ ms).arrive m (dr e.draw h))
            have e2 : ((w.with_ ms).arrive m (dr e.draw h)).n = w.n ∧ ((w.with_ ms).arrive m (dr e.draw h)).T = w.T := by unfold W.arrive; split <;> exact ⟨rfl, rfl⟩
            exact ⟨this.1.trans e2.1, this.2.trans e2.2⟩
      have e1 := tn w.n 0 w
      have e2 := fn 200 0 (w.ticks (dr e.draw) w.n 0)
      exact ⟨fun i hi => by have := b.fm i (by rw [e2.1, e1.1]; exact hi); rw [e2.2, e1.2] at this; exact this, b.mf, e2.1.trans e1.1, e2.2.trans e1.2⟩
    · exact ⟨up.1, up.2, rfl, rfl⟩
  exact ⟨hs, fun i hi => by rw [key.T]; exact key.fm i (by rw [key.n] at hi; exact hi), key.mf⟩
end
end Go.Proofs.Yteellfgiejnigaa.RS
