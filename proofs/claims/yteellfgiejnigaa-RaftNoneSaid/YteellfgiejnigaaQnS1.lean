/- Agreement among nodes, plain: logs, majorities, what is kept. -/
namespace Go.Proofs.Yteellfgiejnigaa.RS
set_option linter.unusedVariables false
abbrev Log := List (Nat × List UInt8)
/-- The term at an index; 0 at the index 0. -/
def tAt (l : Log) : Nat → Nat
  | 0 => 0
  | j + 1 => (l[j]?).elim 0 (·.1)
theorem tAt_succ (l : Log) (j : Nat) : tAt l (j + 1) = (l[j]?).elim 0 (·.1) := rfl
def lastT (l : Log) : Nat := tAt l l.length
theorem tAt_take {l : Log} {i k : Nat} (h : i ≤ k) : tAt (l.take k) i = tAt l i := by
  cases i with
  | zero => rfl
  | succ j =>
    rw [tAt_succ, tAt_succ, List.getElem?_take_of_lt (by omega)]
theorem tAt_prefix {a b : Log} (h : a <+: b) {i : Nat} (hi : i ≤ a.length) : tAt a i = tAt b i := by
  obtain ⟨t, rfl⟩ := h
  cases i with
  | zero => rfl
  | succ j =>
    rw [tAt_succ, tAt_succ, List.getElem?_append_left (by omega)]
theorem pre_len {a b : Log} (h : a <+: b) : a.length ≤ b.length := h.length_le
theorem pre_take {a b : Log} (h : a <+: b) : a = b.take a.length := List.prefix_iff_eq_take.1 h
theorem take_pre (l : Log) (k : Nat) : l.take k <+: l := List.take_prefix k l
theorem pre_both {a b c : Log} (h : a <+: c) (k : b <+: c) (hl : a.length ≤ b.length) : a <+: b := List.prefix_of_prefix_length_le h k hl
theorem take_of_pre {a b : Log} (h : a <+: b) {k : Nat} (hk : k ≤ a.length) : b.take k = a.take k := by
  obtain ⟨t, rfl⟩ := h
  rw [List.take_append_of_le_length hk]
theorem take_take_pre (l : Log) {j k : Nat} (h : j ≤ k) : l.take j <+: l.take k := by
  have := List.take_take (i := j) (j := k) (l := l)
  rw [Nat.min_eq_left h] at this
  rw [← this]
  exact take_pre _ _
theorem pre_of_take {a b : Log} {k : Nat} (h : a <+: b) (hk : a.length ≤ k) : a <+: b.take k := by
  rw [pre_take h]
  exact take_take_pre b hk

/-! ### Majorities -/
def Maj (n : Nat) (p : Nat → Bool) : Prop := n < 2 * (List.range n).countP p
theorem count_disj (p q : Nat → Bool) : ∀ n, (∀ i, i < n → ¬ (p i = true ∧ q i = true)) → (List.range n).countP p + (List.range n).countP q ≤ n := by
  intro n
  induction n with
  | zero => intro _; simp
  | succ n ih =>
    intro h
    have h1 := ih fun i hi => h i (by omega)
    have h2 := h n (by omega)
    rw [List.range_succ, List.countP_append, List.countP_append, List.countP_singleton, List.countP_singleton]
    cases hp : p n <;> cases hq : q n <;> simp_all <;> omega
theorem maj_meet {n : Nat} {p q : Nat → Bool} (hp : Maj n p) (hq : Maj n q) : ∃ i, i < n ∧ p i = true ∧ q i = true := by
  apply Classical.byContradiction
  intro hn
  have := count_disj p q n fun i hi hh => hn ⟨i, hi, hh.1, hh.2⟩
  unfold Maj at *
  omega
/-! ### Logs by the terms' leaders -/
structure Good (LL : Nat → Log) (l : Log) : Prop where
  pre : ∀ k, 1 ≤ k → k ≤ l.length → l.take k <+: LL (tAt l k)
  up : ∀ j k, 1 ≤ j → j ≤ k → k ≤ l.length → tAt l j ≤ tAt l k
  pos : ∀ k, 1 ≤ k → k ≤ l.length → 1 ≤ tAt l k
theorem Good.take {LL : Nat → Log} {l : Log} (h : Good LL l) (m : Nat) : Good LL (l.take m) := by
  refine ⟨fun k h1 h2 => ?_, fun j k h1 h2 h3 => ?_, fun k h1 h2 => ?_⟩
  · rw [List.length_take] at h2
    rw [tAt_take (by omega), List.take_take, Nat.min_eq_left (by omega)]
    exact h.pre k h1 (by omega)
  · rw [List.length_take] at h3
    rw [tAt_take (by omega), tAt_take (by omega)]
    exact h.up j k h1 h2 (by omega)
  · rw [List.length_take] at h2
    rw [tAt_take (by omega)]
    exact h.pos k h1 (by omega)
theorem Good.of_pre {LL : Nat → Log} {a b : Log} (h : Good LL b) (k : a <+: b) : Good LL a := by
  rw [pre_take k]; exact h.take _
theorem Good.mono {LL LL' : Nat → Log} {l : Log} (h : Good LL l) (hx : ∀ T, LL T <+: LL' T) : Good LL' l :=
  ⟨fun k h1 h2 => (h.pre k h1 h2).trans (hx _), h.up, h.pos⟩
theorem good_nil (LL : Nat → Log) : Good LL [] := ⟨fun k h1 h2 => by simp at h2; omega, fun j k h1 h2 h3 => by simp at h3; omega, fun k h1 h2 => by simp at h2; omega⟩
/-- Two logs that have one term at one index are alike up to it. -/
theorem Good.agree {LL : Nat → Log} {a b : Log} (ha : Good LL a) (hb : Good LL b) {k : Nat} (h1 : 1 ≤ k) (h2 : k ≤ a.length) (h3 : k ≤ b.length) (ht : tAt a k = tAt b k) : a.take k = b.take k := by
  have p := ha.pre k h1 h2
  have q := hb.pre k h1 h3
  rw [← ht] at q
  have h := pre_both p q (by rw [List.length_take, List.length_take]; omega)
  have := pre_take h
  rw [List.length_take, Nat.min_eq_left h2, List.take_take, Nat.min_self] at this
  exact this
theorem Good.last {LL : Nat → Log} {l : Log} (h : Good LL l) (hl : 1 ≤ l.length) : l <+: LL (lastT l) := by
  have := h.pre l.length hl (Nat.le_refl _)
  rwa [List.take_length] at this
theorem Good.le_last {LL : Nat → Log} {l : Log} (h : Good LL l) {k : Nat} (h1 : 1 ≤ k) (h2 : k ≤ l.length) : tAt l k ≤ lastT l := h.up k l.length h1 h2 (Nat.le_refl _)

/-- One log is at most as good as another one. -/
def Lle (X Y : Log) : Prop := lastT X < lastT Y ∨ lastT X = lastT Y ∧ X.length ≤ Y.length

/-! ### The state -/
/-- What is kept beside the nodes: each term's leader, its log, the log when it was elected; votes, and the voters' logs; what was acknowledged. -/
structure Gh where
  LL : Nat → Log
  CL : Nat → Log
  Ld : Nat → Option Nat
  V : Nat → Nat → Option Nat
  VL : Nat → Nat → Option Log
  A : Nat → Nat → Nat
  K : Nat → Prop
structure Nd where
  term : Nat
  who : Option Nat
  role : Nat
  log : Log
  commit : Nat
  sides : Nat → Bool
  mt : Nat → Nat
/-- What a majority has acknowledged, up to an entry of that term. -/
def IsC (n : Nat) (G : Gh) (T : Nat) (X : Log) : Prop :=
  G.K T ∧ ∃ k p, Maj n p ∧ (∀ q, q < n → p q = true → k ≤ G.A T q) ∧ 1 ≤ k ∧ k ≤ (G.LL T).length ∧ tAt (G.LL T) k = T ∧ X = (G.LL T).take k
/-- Committed, by that term. -/
def ComC (n : Nat) (G : Gh) (U : Nat) (l : Log) : Prop := l = [] ∨ ∃ T X, T ≤ U ∧ IsC n G T X ∧ l <+: X
/-- A leader in between has not got it. -/
def Lost (G : Gh) (T k U : Nat) : Prop := ∃ T', T < T' ∧ T' < U ∧ G.Ld T' ≠ none ∧ ¬ (G.LL T).take k <+: G.CL T'
structure Inv (n : Nat) (G : Gh) (nd : Nat → Nd) : Prop where
  good : ∀ i, i < n → Good G.LL (nd i).log
  below : ∀ i, i < n → ∀ k, k ≤ (nd i).log.length → tAt (nd i).log k ≤ (nd i).term
  ld0 : ∀ T, G.Ld T = none → G.LL T = []
  ldc : ∀ T c, G.Ld T = some c → c < n ∧ T ≤ (nd c).term ∧ 1 ≤ T ∧ Good G.LL (G.CL T) ∧ (∀ k, k ≤ (G.CL T).length → tAt (G.CL T) k < T) ∧ G.CL T <+: G.LL T ∧ ∀ k, (G.CL T).length < k → k ≤ (G.LL T).length → tAt (G.LL T) k = T
  votes : ∀ T i c, i < n → G.V T i = some c → c < n ∧ T ≤ (nd i).term ∧ T ≤ (nd c).term
  who : ∀ i, i < n → (nd i).who = G.V (nd i).term i
  quo : ∀ T c, G.Ld T = some c → ∃ p, Maj n p ∧ ∀ q, q < n → p q = true → G.V T q = some c ∧ ∃ X, G.VL T q = some X ∧ Lle X (G.CL T)
  vlg : ∀ U q X, q < n → G.VL U q = some X → Good G.LL X ∧ G.V U q ≠ none
  vcand : ∀ T q c, q < n → G.V T q = some c → G.Ld T = none → ∃ X, G.VL T q = some X ∧ ((nd c).term = T → (nd c).role = 2 → Lle X (nd c).log)
  ackb : ∀ T q, q < n → G.A T q ≤ (G.LL T).length ∧ (0 < G.A T q → T ≤ (nd q).term)
  keep : ∀ T q k, q < n → 1 ≤ k → k ≤ G.A T q → (G.LL T).take k <+: (nd q).log ∨ Lost G T k ((nd q).term + 1)
  vkeep : ∀ U q X T k, q < n → G.VL U q = some X → T < U → 1 ≤ k → k ≤ G.A T q → (G.LL T).take k <+: X ∨ Lost G T k U
  lead : ∀ i, i < n → (nd i).role = 3 → G.Ld (nd i).term = some i ∧ (nd i).log = G.LL (nd i).term ∧ G.A (nd i).term i = (nd i).log.length ∧ ∀ q, q < n → q ≠ i → (nd i).mt q ≤ G.A (nd i).term q
  cand : ∀ i, i < n → (nd i).role = 2 → G.V (nd i).term i = some i ∧ G.Ld (nd i).term ≠ some i ∧ (∀ k, k ≤ (nd i).log.length → tAt (nd i).log k < (nd i).term) ∧ ∀ q, q < n → (nd i).sides q = true → G.V (nd i).term q = some i
  com : ∀ i, i < n → (nd i).commit ≤ (nd i).log.length ∧ ComC n G (nd i).term ((nd i).log.take (nd i).commit)

section
variable {n : Nat} {G : Gh} {nd : Nat → Nd}
theorem Inv.led {T : Nat} (I : Inv n G nd) (h : G.LL T ≠ []) : ∃ c, G.Ld T = some c := by
  cases hx : G.Ld T with
  | none => exact absurd (I.ld0 T hx) h
  | some c => exact ⟨c, rfl⟩
/-- THE LEADERS BEHIND HAVE IT. -/
theorem Inv.complete (I : Inv n G nd) {T : Nat} {X : Log} (hX : IsC n G T X) : ∀ U, T < U → G.Ld U ≠ none → X <+: G.CL U := by
  obtain ⟨_, k, p, hp, ha, h1, h2, ht, rfl⟩ := hX
  intro U
  induction U using Nat.strongRecOn with
  | _ U ih =>
    intro hTU hU
    obtain ⟨c, hc⟩ := Option.ne_none_iff_exists'.1 hU
    obtain ⟨_, _, _, hgU, hltU, hpreU, _⟩ := I.ldc U c hc
    obtain ⟨p', hp', hq'⟩ := I.quo U c hc
    obtain ⟨q, hqn, hq1, hq2⟩ := maj_meet hp hp'
    obtain ⟨_, Y, hY, hle⟩ := hq' q hqn hq2
    have hgY := (I.vlg U q Y hqn hY).1
    have hPY : (G.LL T).take k <+: Y := by
      rcases I.vkeep U q Y T k hqn hY hTU h1 (ha q hqn hq1) with h | ⟨T', a1, a2, a3, a4⟩
      · exact h
      · exact absurd (ih T' a2 a1 a3) a4
    have hlenP : ((G.LL T).take k).length = k := by rw [List.length_take]; omega
    have hkY : k ≤ Y.length := by have := pre_len hPY; omega
    have htP : tAt ((G.LL T).take k) k = T := by rw [tAt_take (Nat.le_refl _)]; exact ht
    have htY : tAt Y k = T := by rw [← tAt_prefix hPY (by omega)]; exact htP
    have hlastY : T ≤ lastT Y := by rw [← htY]; exact hgY.le_last h1 hkY
    have hT1 : 1 ≤ T := by rw [← htY]; exact hgY.pos k h1 hkY
    rcases hle with hlt | ⟨heq, hlen⟩
    · have hne : 1 ≤ (G.CL U).length := by
        by_cases h0 : (G.CL U).length = 0
        · exfalso
          have : lastT (G.CL U) = 0 := by unfold lastT; rw [h0]; rfl
          omega
        · omega
      have hW := hgU.last hne
      have hWU : lastT (G.CL U) < U := hltU _ (Nat.le_refl _)
      have hLW : G.LL (lastT (G.CL U)) ≠ [] := fun e => by
        rw [e] at hW
        have := pre_len hW
        rw [List.length_nil] at this
        omega
      obtain ⟨d, hd⟩ := I.led hLW
      have hCW := ih (lastT (G.CL U)) hWU (by omega) (by rw [hd]; simp)
      have hCL := hCW.trans (I.ldc _ d hd).2.2.2.2.2.1
      by_cases hk : k ≤ (G.CL U).length
      · exact pre_both hCL hW (by omega)
      · exfalso
        have hCP := pre_both hW hCL (by omega)
        have e1 : lastT (G.CL U) = tAt ((G.LL T).take k) (G.CL U).length := tAt_prefix hCP (Nat.le_refl _)
        have e2 : tAt ((G.LL T).take k) (G.CL U).length = tAt Y (G.CL U).length := tAt_prefix hPY (by omega)
        have e3 := hgY.up (G.CL U).length k hne (by omega) hkY
        omega
    · have hY1 : 1 ≤ Y.length := by omega
      have hC1 : 1 ≤ (G.CL U).length := by omega
      have a := hgY.last hY1
      have b := hgU.last hC1
      rw [← heq] at b
      exact hPY.trans (pre_both a b hlen)
theorem IsC.ne {T : Nat} {X : Log} (h : IsC n G T X) : G.LL T ≠ [] := by
  obtain ⟨_, k, p, _, _, h1, h2, _⟩ := h
  intro e
  rw [e] at h2
  simp at h2
  omega
/-- .. in their logs. -/
theorem Inv.has (I : Inv n G nd) {T U : Nat} {X : Log} (hX : IsC n G T X) (hTU : T ≤ U) (hU : G.Ld U ≠ none) : X <+: G.LL U := by
  by_cases e : T = U
  · subst e
    obtain ⟨_, k, p, _, _, _, _, _, rfl⟩ := hX
    exact take_pre _ _
  · obtain ⟨c, hc⟩ := Option.ne_none_iff_exists'.1 hU
    exact (I.complete hX U (by omega) hU).trans (I.ldc U c hc).2.2.2.2.2.1
theorem Inv.comp (I : Inv n G nd) {T U : Nat} {X Y : Log} (hX : IsC n G T X) (hY : IsC n G U Y) : X <+: Y ∨ Y <+: X := by
  have key : ∀ {T U : Nat} {X Y : Log}, IsC n G T X → IsC n G U Y → T ≤ U → X <+: Y ∨ Y <+: X := by
    intro T U X Y hX hY h
    obtain ⟨c, hc⟩ := I.led hY.ne
    have a := I.has hX h (by rw [hc]; simp)
    obtain ⟨_, k, p, _, _, _, _, _, rfl⟩ := hY
    by_cases hl : X.length ≤ ((G.LL U).take k).length
    · exact .inl (pre_both a (take_pre _ _) hl)
    · exact .inr (pre_both (take_pre _ _) a (by omega))
  by_cases h : T ≤ U
  · exact key hX hY h
  · exact (key hY hX (by omega)).symm
theorem ComC.mono {U U' : Nat} {l : Log} (h : ComC n G U l) (hu : U ≤ U') : ComC n G U' l := by
  rcases h with h | ⟨T, X, h1, h2, h3⟩
  · exact .inl h
  · exact .inr ⟨T, X, by omega, h2, h3⟩
theorem ComC.of_pre {U : Nat} {a b : Log} (h : ComC n G U b) (k : a <+: b) : ComC n G U a := by
  rcases h with rfl | ⟨T, X, h1, h2, h3⟩
  · exact .inl (List.prefix_nil.1 k)
  · exact .inr ⟨T, X, h1, h2, k.trans h3⟩
/-- What is committed is in the log of a leader of that term, or of a later one. -/
theorem Inv.com_has (I : Inv n G nd) {U W : Nat} {l : Log} (h : ComC n G U l) (hu : U ≤ W) (hW : G.Ld W ≠ none) : l <+: G.LL W := by
  rcases h with rfl | ⟨T, X, h1, h2, h3⟩
  · exact List.nil_prefix
  · exact h3.trans (I.has h2 (by omega) hW)
theorem Inv.com_comp (I : Inv n G nd) {U W : Nat} {a b : Log} (h : ComC n G U a) (k : ComC n G W b) : a <+: b ∨ b <+: a := by
  rcases h with rfl | ⟨T, X, h1, h2, h3⟩
  · exact .inl List.nil_prefix
  · rcases k with rfl | ⟨T', Y, k1, k2, k3⟩
    · exact .inr List.nil_prefix
    · have key : ∀ {Z : Log}, a <+: Z → b <+: Z → a <+: b ∨ b <+: a := by
        intro Z p q
        by_cases hl : a.length ≤ b.length
        · exact .inl (pre_both p q hl)
        · exact .inr (pre_both q p (by omega))
      rcases I.comp h2 k2 with h | h
      · exact key (h3.trans h) k3
      · exact key h3 (k3.trans h)
end
end Go.Proofs.Yteellfgiejnigaa.RS
