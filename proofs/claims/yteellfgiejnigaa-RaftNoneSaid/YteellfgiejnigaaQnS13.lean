/- What is looked at behind each event: leaders, what is told, tracks that agree. -/
import Derived.Test.YteellfgiejnigaaQnS12
namespace Go.Proofs.Yteellfgiejnigaa.RS
set_option linter.unusedVariables false
def tell (cm : Log) (r : Rf) : Log := cm ++ (r.es.take (r.commit - r.base)).drop (cm.length - r.base)
namespace W
def look1 (w : W) (i : Nat) : W := { w with leaders := if (w.r i).role = 3 then (fun t => if t = (w.r i).term then some i else w.leaders t) else w.leaders, cm := tell w.cm (w.r i) }
/-- So many are looked at, from that one on. -/
def looks : Nat → Nat → W → W
  | 0, _, w => w
  | k + 1, h, w => looks k (h + 1) (w.look1 h)
end W
/-- What a look at a node finds. -/
structure Look (w : W) (i : Nat) : Prop where
  one : (w.r i).role = 3 → w.leaders (w.r i).term = none ∨ w.leaders (w.r i).term = some i
  bc : (w.r i).base ≤ (w.r i).commit
  bm : (w.r i).base ≤ w.cm.length
  at_ : tAt w.cm (w.r i).base = (w.r i).bt
  len : ((w.r i).es.take ((w.r i).commit - (w.r i).base)).length = (w.r i).commit - (w.r i).base
  eq : ∀ j, j < (w.r i).commit - (w.r i).base → (w.r i).base + j < w.cm.length → w.cm[(w.r i).base + j]? = (w.r i).es[j]?
section
variable {w : W} {G G' : Gh} {nd nd' : Nat → Nd} {l l' : Nat → Log} {i : Nat}
theorem get_pre {a b : Log} (h : a <+: b) {j : Nat} (hj : j < a.length) : a[j]? = b[j]? := by
  obtain ⟨t, rfl⟩ := h
  rw [List.getElem?_append_left hj]
theorem WI.comp (I : WI w G nd l) (hi : i < w.n) : w.cm <+: (l i).take (w.r i).commit ∨ (l i).take (w.r i).commit <+: w.cm := by
  obtain ⟨U, hU⟩ := I.cm
  exact I.inv.com_comp hU (I.st i hi).com.2
theorem WI.look (I : WI w G nd l) (hi : i < w.n) : Look w i := by
  have S := I.st i hi
  have hcom := S.com.1
  have hbc := S.bc
  have hb := I.bs i hi
  have hl := S.trk.len
  have hP : ((l i).take (w.r i).commit).length = (w.r i).commit := by rw [List.length_take]; omega
  refine ⟨fun hr => ?_, hbc, hb, ?_, by rw [List.length_take]; omega, fun j hj hjm => ?_⟩
  · cases h : w.leaders (w.r i).term with
    | none => exact .inl rfl
    | some c =>
      right
      have h1 := I.ls _ c h
      have h2 := (I.inv.lead i hi (by rw [S.eq]; exact hr)).1
      rw [S.eq] at h2
      have h2' : G.Ld (w.r i).term = some i := h2
      rw [h1] at h2'
      rw [Option.some.inj h2']
  · rw [S.trk.term]
    rcases I.comp hi with h | h
    · rw [tAt_prefix h hb, tAt_take hbc]
    · rw [← tAt_prefix h (by omega), tAt_take hbc]
  · have e : (w.r i).es[j]? = ((l i).take (w.r i).commit)[(w.r i).base + j]? := by
      rw [S.trk.es, List.getElem?_drop, List.getElem?_take_of_lt (by omega)]
    rw [e]
    rcases I.comp hi with h | h
    · exact get_pre h hjm
    · exact (get_pre h (by omega)).symm
theorem tell_is {cm P : Log} {r : Rf} {l : Log} (ht : Trk r.base r.bt r.es l) (hc : r.commit ≤ l.length) (hb : r.base ≤ cm.length) (hbc : r.base ≤ r.commit) (hP : l.take r.commit = P) (h : cm <+: P ∨ P <+: cm) : (tell cm r = P ∧ cm <+: P) ∨ (tell cm r = cm ∧ P <+: cm) := by
  subst hP
  have e : (r.es.take (r.commit - r.base)).drop (cm.length - r.base) = (l.take r.commit).drop cm.length := by
    rw [ht.es, ← List.drop_take, List.drop_drop]
    congr 1
    omega
  unfold tell
  rw [e]
  rcases h with h | h
  · left
    refine ⟨?_, h⟩
    obtain ⟨t, ht⟩ := h
    rw [← ht, List.drop_left]
  · right
    refine ⟨?_, h⟩
    have := h.length_le
    rw [List.drop_eq_nil_of_le this, List.append_nil]
theorem tell_pre (cm : Log) (r : Rf) : cm <+: tell cm r := List.prefix_append _ _
theorem WI.look1 (I : WI w G nd l) (hi : i < w.n) : WI (w.look1 i) G nd l := by
  have S := I.st i hi
  have hcom := S.com
  have hle : w.cm.length ≤ (tell w.cm (w.r i)).length := (tell_pre _ _).length_le
  refine ⟨I.inv, I.st, fun m hm => ?_, fun j hj => Nat.le_trans (I.bs j hj) hle, I.dn, ?_, fun T hT => ?_, fun T c h => ?_⟩
  · obtain ⟨a, b, c, d⟩ := I.ml m hm
    exact ⟨a, b, c, fun h => Nat.le_trans (d h) hle⟩
  · rcases tell_is S.trk hcom.1 (I.bs i hi) S.bc rfl (I.comp hi) with ⟨e, _⟩ | ⟨e, _⟩
    · refine ⟨(w.r i).term, ?_⟩
      show ComC w.n G (w.r i).term (tell w.cm (w.r i))
      rw [e]; exact hcom.2
    · obtain ⟨U, hU⟩ := I.cm
      refine ⟨U, ?_⟩
      show ComC w.n G U (tell w.cm (w.r i))
      rw [e]; exact hU
  · rcases I.kk T hT with h | h
    · left
      show (if (w.r i).role = 3 then (fun t => if t = (w.r i).term then some i else w.leaders t) else w.leaders) T ≠ none
      split
      · show (if T = (w.r i).term then some i else w.leaders T) ≠ none
        split
        · exact fun e => by cases e
        · exact h
      · exact h
    · exact .inr h
  · have h' : (if (w.r i).role = 3 then (fun t => if t = (w.r i).term then some i else w.leaders t) else w.leaders) T = some c := h
    by_cases hr : (w.r i).role = 3
    · rw [if_pos hr] at h'
      have h'' : (if T = (w.r i).term then some i else w.leaders T) = some c := h'
      by_cases e : T = (w.r i).term
      · rw [if_pos e] at h''
        have := Option.some.inj h''
        subst this
        have h2 := (I.inv.lead i hi (by rw [S.eq]; exact hr)).1
        rw [S.eq] at h2
        rw [e]; exact h2
      · rw [if_neg e] at h''; exact I.ls T c h''
    · rw [if_neg hr] at h'; exact I.ls T c h'
/-- What holds of a node that was looked at. -/
def Saw (w : W) (i : Nat) : Prop := (w.r i).commit ≤ w.cm.length ∧ ((w.r i).role = 3 → w.leaders (w.r i).term ≠ none)
theorem WI.saw (I : WI w G nd l) (hi : i < w.n) : Saw (w.look1 i) i := by
  have S := I.st i hi
  have hcom := S.com
  have hP : ((l i).take (w.r i).commit).length = (w.r i).commit := by rw [List.length_take]; omega
  refine ⟨?_, fun hr => ?_⟩
  · show (w.r i).commit ≤ (tell w.cm (w.r i)).length
    rcases tell_is S.trk hcom.1 (I.bs i hi) S.bc rfl (I.comp hi) with ⟨e, _⟩ | ⟨e, h⟩
    · rw [e, hP]; exact Nat.le_refl _
    · rw [e]
      have := h.length_le
      omega
  · have hr' : (w.r i).role = 3 := hr
    show (if (w.r i).role = 3 then (fun t => if t = (w.r i).term then some i else w.leaders t) else w.leaders) (w.r i).term ≠ none
    rw [if_pos hr']
    show (if (w.r i).term = (w.r i).term then some i else _) ≠ none
    rw [if_pos rfl]
    exact fun e => by cases e
theorem Saw.look1 {j : Nat} (h : Saw w j) (i : Nat) : Saw (w.look1 i) j := by
  refine ⟨Nat.le_trans h.1 (tell_pre _ _).length_le, fun hr => ?_⟩
  have := h.2 hr
  show (if (w.r i).role = 3 then (fun t => if t = (w.r i).term then some i else w.leaders t) else w.leaders) (w.r j).term ≠ none
  split
  · show (if (w.r j).term = (w.r i).term then some i else w.leaders (w.r j).term) ≠ none
    split
    · exact fun e => by cases e
    · exact this
  · exact this
theorem looks_ok : ∀ (k h : Nat) (w : W) (B : Nat), h + k ≤ w.n → Small w B → (∀ j, j < h → Saw w j) → Small (w.looks k h) B ∧ (∀ j, j < h + k → Saw (w.looks k h) j) ∧ (w.looks k h).n = w.n := by
  intro k
  induction k with
  | zero => intro h w B _ hP hS; exact ⟨hP, hS, rfl⟩
  | succ k ih =>
    intro h w B hk hP hS
    obtain ⟨n1, n7, G, nd, l, I, Z⟩ := hP
    obtain ⟨a, b, c⟩ := ih (h + 1) (w.look1 h) B (by show h + 1 + k ≤ w.n; omega) ⟨n1, n7, G, nd, l, I.look1 (by omega), ⟨Z.log, Z.term⟩⟩ (fun j hj => by
      by_cases e : j = h
      · subst e; exact I.saw (by omega)
      · exact (hS j (by omega)).look1 h)
    exact ⟨a, fun j hj => b j (by omega), c⟩

/-! ### Behind the look -/
/-- What else is looked at. -/
structure Safe (w : W) : Prop where
  newest : ∀ i, i < w.n → (w.r i).role = 3 → (w.r i).last < w.cm.length → ∃ T, w.leaders T ≠ none ∧ (w.r i).term < T
  tip : ∀ i, i < w.n → (w.r i).tipt ≤ (w.r i).term
  agree : ∀ i k, i < w.n → k < w.n → ∀ low m, (w.r i).base ≤ low → (w.r k).base ≤ low → low < m → m ≤ (w.r i).last → m ≤ (w.r k).last → (termAt (w.r i).base (w.r i).bt (w.r i).es m).1 = (termAt (w.r k).base (w.r k).bt (w.r k).es m).1 →
    sliceR (w.r i).base (w.r i).es (low + 1) (m - low) = sliceR (w.r k).base (w.r k).es (low + 1) (m - low)
theorem Trk.piece {B T : Nat} {es l : Log} (h : Trk B T es l) {low m : Nat} (h1 : B ≤ low) (h2 : low < m) (h3 : m ≤ l.length) : sliceR B es (low + 1) (m - low) = (l.take m).drop low := by
  have hl := h.len
  unfold sliceR
  rw [if_neg (by omega)]
  rw [h.es, List.drop_drop, List.drop_take]
  congr 2
  omega
theorem WI.safe (I : WI w G nd l) (hS : ∀ j, j < w.n → Saw w j) : Safe w := by
  refine ⟨fun i hi hr hlt => ?_, fun i hi => ?_, fun i k hi hk low m h1 h2 h3 h4 h5 he => ?_⟩
  · apply Classical.byContradiction
    intro hn
    have S := I.st i hi
    have hri : (nd i).role = 3 := by rw [S.eq]; exact hr
    obtain ⟨U, hU⟩ := I.cm
    obtain ⟨l1, l2, _, _⟩ := I.inv.lead i hi hri
    rw [S.eq] at l1 l2
    have l1' : G.Ld (w.r i).term = some i := l1
    have l2' : l i = G.LL (w.r i).term := l2
    rw [S.last] at hlt
    rcases hU with h | ⟨T, X, _, hX, hp⟩
    · rw [h] at hlt; exact absurd hlt (by simp)
    · have hT : T ≤ (w.r i).term := by
        rcases I.kk T hX.1 with h | ⟨p, _, _, D⟩
        · apply Classical.byContradiction
          intro h2
          exact hn ⟨T, h, by omega⟩
        · apply Classical.byContradiction
          intro h2
          refine (D i hi ?_).1 hri
          rw [S.eq]
          show (w.r i).term < T
          omega
      have := (hp.trans (I.inv.has hX hT (by rw [l1']; simp))).length_le
      rw [← l2'] at this
      omega
  · have S := I.st i hi
    rw [S.tipt]
    have := I.inv.below i hi (l i).length (by rw [S.eq]; exact Nat.le_refl _)
    rw [S.eq] at this
    exact this
  · have Si := I.st i hi
    have Sk := I.st k hk
    rw [Si.last] at h4
    rw [Sk.last] at h5
    rw [Si.trk.at (by omega) h4, Sk.trk.at (by omega) h5] at he
    have gi := I.inv.good i hi
    have gk := I.inv.good k hk
    rw [Si.eq] at gi
    rw [Sk.eq] at gk
    have e : (l i).take m = (l k).take m := Good.agree gi gk (k := m) (by omega) h4 h5 he
    rw [Si.trk.piece h1 h3 h4, Sk.trk.piece h2 h3 h5, e]
end
end Go.Proofs.Yteellfgiejnigaa.RS
