/- RaftSafe: S5, S6. -/
import Derived.Test.YteellfgiejnigaaQtA04
namespace Go.Proofs.Yteellfgiejnigaa.RS
set_option linter.unusedVariables false
def termAt (B T : Nat) (es : Log) (i : Nat) : Nat × Bool := if i < B ∨ B + es.length < i then (0, false) else if i = B then (T, true) else ((es.getD (i - B - 1) (0, [])).1, true)
def placedN (prev n : Nat) : Nat := min n (18446744073709551615 - prev)
def misses (B T : Nat) (es : Log) (prev : Nat) (ss : Log) (k : Nat) : Bool :=
 decide (B < prev + k + 1) && (!(termAt B T es (prev + k + 1)).2 || decide ((termAt B T es (prev + k + 1)).1 ≠ (ss.getD k (0, [])).1))
def meetR (B T : Nat) (es : Log) (prev term : Nat) (ss : Log) : Nat × Log × Int :=
 if prev < B ∧ ss.length < B - prev then (0, [], 240)
 else if B + es.length < prev ∨ ((termAt B T es prev).2 = true ∧ (termAt B T es prev).1 ≠ term) then (0, [], 241)
 else match (List.range (placedN prev ss.length)).find? (misses B T es prev ss) with
  | none => (B + es.length, [], 0)
  | some k => (prev + k, ss.drop k, 0)
structure Trk (B T : Nat) (es : Log) (l : Log) : Prop where
 base : B ≤ l.length
 es : es = l.drop B
 term : T = tAt l B
section
variable {B T : Nat} {es l : Log}
theorem Trk.len (h : Trk B T es l) : B + es.length = l.length := by rw [h.es, List.length_drop]; have := h.base; omega
theorem Trk.at (h : Trk B T es l) {i : Nat} (h1 : B ≤ i) (h2 : i ≤ l.length) : termAt B T es i = (tAt l i, true) := by
 have hl := h.len
 unfold termAt
 rw [if_neg (by omega)]
 by_cases e : i = B
 · rw [if_pos e, e, h.term]
 · rw [if_neg e]
   congr 1
   obtain ⟨j, rfl⟩ : ∃ j, i = j + 1 := ⟨i - 1, by omega⟩
   rw [tAt_succ, h.es, List.getD_eq_getElem?_getD, List.getElem?_drop, show B + (j + 1 - B - 1) = j by omega]
   cases l[j]? <;> rfl
theorem Trk.out (h : Trk B T es l) {i : Nat} (hi : i < B ∨ l.length < i) : termAt B T es i = (0, false) := by
 have hl := h.len
 unfold termAt
 rw [if_pos (by omega)]
end
theorem tAt_slice {ml : Log} {prev len k : Nat} (hk : k < len) (hl : prev + len ≤ ml.length) : ((((ml.drop prev).take len).getD k (0, [])).1) = tAt ml (prev + k + 1) := by
 rw [tAt_succ, List.getD_eq_getElem?_getD, List.getElem?_take_of_lt hk, List.getElem?_drop]
 cases ml[prev + k]? <;> rfl
theorem meet_ok {LL : Nat → Log} {B bt : Nat} {es l ml : Log} {prev len : Nat} (ht : Trk B bt es l) (hg : Good LL l) (hm : Good LL ml) (hB : l.take B <+: ml) (hl : prev + len ≤ ml.length) (h64 : ml.length < 18446744073709551615)
 {keep : Nat} {add : Log} (hr : meetR B bt es prev (tAt ml prev) ((ml.drop prev).take len) = (keep, add, 0)) :
 (add = [] ∧ ml.take (prev + len) <+: l) ∨
 (add ≠ [] ∧ B ≤ keep ∧ keep ≤ l.length ∧ keep < prev + len ∧ prev ≤ keep ∧ l.take keep ++ add = ml.take (prev + len) ∧ l.take keep = ml.take keep ∧ ∀ P, P <+: l → P <+: ml → P.length ≤ keep) := by
 have hlen := ht.len
 have hsl : ((ml.drop prev).take len).length = len := by rw [List.length_take, List.length_drop]; omega
 unfold meetR at hr
 rw [hsl] at hr
 have hN : placedN prev len = len := by unfold placedN; omega
 rw [hN] at hr
 by_cases h1 : prev < B ∧ len < B - prev
 · rw [if_pos h1] at hr; simp at hr
 · rw [if_neg h1] at hr
   by_cases h2 : B + es.length < prev ∨ ((termAt B bt es prev).2 = true ∧ (termAt B bt es prev).1 ≠ tAt ml prev)
   · rw [if_pos h2] at hr; simp at hr
   · rw [if_neg h2] at hr
     have hpl : prev ≤ l.length := by
      apply Classical.byContradiction
      intro hn
      exact h2 (.inl (by omega))
     have hBl := pre_len hB
     rw [List.length_take, Nat.min_eq_left ht.base] at hBl
     -- agreement at prev, or at the base
     have hat : ∀ m, B ≤ m → m ≤ l.length → m ≤ ml.length → tAt l m = tAt ml m → l.take m = ml.take m := by
      intro m m1 m2 m3 e
      by_cases h0 : m = 0
      · rw [h0]; simp
      · exact hg.agree hm (by omega) m2 m3 e
     have hbase : l.take B = ml.take B := by
      have := pre_take hB
      rw [List.length_take, Nat.min_eq_left ht.base] at this
      exact this
     have hprev : B ≤ prev → l.take prev = ml.take prev := by
      intro hb
      refine hat prev hb hpl (by omega) ?_
      have e := ht.at hb hpl
      rw [e] at h2
      apply Classical.byContradiction
      intro hn
      exact h2 (.inr ⟨rfl, hn⟩)
     -- what did not miss agrees
     have hnm : ∀ k, k < len → misses B bt es prev ((ml.drop prev).take len) k = false → B < prev + k + 1 → prev + k + 1 ≤ l.length ∧ l.take (prev + k + 1) = ml.take (prev + k + 1) := by
      intro k hk hx hb
      unfold misses at hx
      have hin : prev + k + 1 ≤ l.length := by
       apply Classical.byContradiction
       intro hn
       rw [ht.out (.inr (by omega))] at hx
       simp [hb] at hx
      refine ⟨hin, hat _ (by omega) hin (by omega) ?_⟩
      rw [ht.at (by omega) hin, tAt_slice hk hl] at hx
      simpa [hb] using hx
     cases hf : (List.range len).find? (misses B bt es prev ((ml.drop prev).take len)) with
     | none =>
      rw [hf] at hr
      simp only [Prod.mk.injEq, and_true] at hr
      left
      refine ⟨hr.2.symm, ?_⟩
      have hall : ∀ i, i < len → misses B bt es prev ((ml.drop prev).take len) i = false := fun i hi => by
       have := List.find?_eq_none.1 hf i (List.mem_range.2 hi)
       simpa using this
      by_cases h0 : len = 0
      · subst h0
        rw [Nat.add_zero]
        by_cases hb : B ≤ prev
        · rw [← hprev hb]; exact take_pre _ _
        · exfalso; omega
      · by_cases hb : B < prev + (len - 1) + 1
        · obtain ⟨_, e⟩ := hnm (len - 1) (by omega) (hall _ (by omega)) hb
          rw [show prev + len = prev + (len - 1) + 1 by omega, ← e]
          exact take_pre _ _
        · have e : prev + len = B := by omega
          rw [e, ← hbase]
          exact take_pre _ _
     | some k =>
      rw [hf] at hr
      simp only [Prod.mk.injEq, and_true] at hr
      obtain ⟨rfl, rfl⟩ := hr
      right
      obtain ⟨hk, hkm, hj⟩ := List.find?_range_eq_some.1 hf
      have hkl : k < len := List.mem_range.1 hkm
      have hbk : B < prev + k + 1 := by
       unfold misses at hk
       have := (Bool.and_eq_true_iff.1 hk).1
       simpa using this
      have hall : ∀ i, i < k → misses B bt es prev ((ml.drop prev).take len) i = false := fun i hi => by simpa using hj i hi
      have hkeep : prev + k ≤ l.length ∧ l.take (prev + k) = ml.take (prev + k) := by
       rcases Nat.eq_zero_or_pos k with h0 | h0
       · subst h0
         rw [Nat.add_zero]
         exact ⟨hpl, hprev (by omega)⟩
       · by_cases hb : B < prev + (k - 1) + 1
         · have := hnm (k - 1) (by omega) (hall (k - 1) (by omega)) hb
           rw [show prev + (k - 1) + 1 = prev + k by omega] at this
           exact this
         · have e : prev + k = B := by omega
           rw [e]
           exact ⟨ht.base, hbase⟩
      refine ⟨fun e => ?_, by omega, hkeep.1, by omega, by omega, ?_, hkeep.2, fun P hP hQ => ?_⟩
      · have := congrArg List.length e
        rw [List.length_drop, hsl] at this
        simp at this
        omega
      · rw [hkeep.2]
        have e1 : ((ml.drop prev).take len).drop k = (ml.drop (prev + k)).take (len - k) := by
         rw [List.drop_take, List.drop_drop]
        have e2 : ml.take ((prev + k) + (len - k)) = ml.take (prev + k) ++ (ml.drop (prev + k)).take (len - k) := List.take_add
        rw [e1, show prev + len = (prev + k) + (len - k) by omega]
        exact e2.symm
      · apply Classical.byContradiction
        intro hn
        have hlP := pre_len hP
        have e1 : tAt P (prev + k + 1) = tAt l (prev + k + 1) := tAt_prefix hP (by omega)
        have e2 : tAt P (prev + k + 1) = tAt ml (prev + k + 1) := tAt_prefix hQ (by omega)
        unfold misses at hk
        rw [ht.at (by omega) (by omega), tAt_slice hkl hl, ← e1, ← e2] at hk
        simp at hk
section
variable {n : Nat} {G : Gh} {nd : Nat → Nd}
theorem Inv.good_LL (I : Inv n G nd) (T : Nat) : Good G.LL (G.LL T) := by
 cases h : G.Ld T with
 | none => rw [I.ld0 T h]; exact good_nil _
 | some c =>
  obtain ⟨_, _, a3, a4, a5, a6, a7⟩ := I.ldc T c h
  have hl := pre_len a6
  have hold : ∀ k, k ≤ (G.CL T).length → tAt (G.LL T) k = tAt (G.CL T) k := fun k hk => (tAt_prefix a6 hk).symm
  refine ⟨fun k h1 h2 => ?_, fun j k h1 h2 h3 => ?_, fun k h1 h2 => ?_⟩
  · by_cases hk : k ≤ (G.CL T).length
    · rw [hold k hk, take_of_pre a6 hk]; exact a4.pre k h1 hk
    · rw [a7 k (by omega) h2]; exact take_pre _ _
  · by_cases hk : k ≤ (G.CL T).length
    · rw [hold k hk, hold j (by omega)]; exact a4.up j k h1 h2 hk
    · rw [a7 k (by omega) h3]
      by_cases hj : j ≤ (G.CL T).length
      · rw [hold j hj]; exact Nat.le_of_lt (a5 j hj)
      · rw [a7 j (by omega) (by omega)]; exact Nat.le_refl _
  · by_cases hk : k ≤ (G.CL T).length
    · rw [hold k hk]; exact a4.pos k h1 hk
    · rw [a7 k (by omega) h2]; exact a3
theorem Inv.LL_below (I : Inv n G nd) {T : Nat} : ∀ k, k ≤ (G.LL T).length → tAt (G.LL T) k ≤ T := by
 intro k hk
 cases h : G.Ld T with
 | none => rw [I.ld0 T h] at hk ⊢; have : k = 0 := by simpa using hk
           subst this; exact Nat.zero_le _
 | some c =>
  obtain ⟨_, _, a3, a4, a5, a6, a7⟩ := I.ldc T c h
  by_cases hk2 : k ≤ (G.CL T).length
  · rw [← tAt_prefix a6 hk2]; exact Nat.le_of_lt (a5 k hk2)
  · rw [a7 k (by omega) hk]; exact Nat.le_refl _
theorem Inv.kept (I : Inv n G nd) {i T : Nat} (hi : i < n) (hT : (nd i).term = T) (hL : G.Ld T ≠ none) {l : Log} (hx : ∀ P, P <+: (nd i).log → P <+: G.LL T → P <+: l) :
 ∀ U k, 1 ≤ k → k ≤ G.A U i → (G.LL U).take k <+: (nd i).log → (G.LL U).take k <+: l ∨ Lost G U k (T + 1) := by
 intro U k h1 hk hp
 have hU : U ≤ T := by rw [← hT]; exact (I.ackb U i hi).2 (by omega)
 by_cases e : U = T
 · subst e; exact .inl (hx _ hp (take_pre _ _))
 · obtain ⟨c, hc⟩ := Option.ne_none_iff_exists'.1 hL
   by_cases hc2 : (G.LL U).take k <+: G.CL T
   · exact .inl (hx _ hp (hc2.trans (I.ldc T c hc).2.2.2.2.2.1))
   · exact .inr ⟨T, by omega, by omega, hL, hc2⟩
theorem Inv.hear_add (I : Inv n G nd) {i f T : Nat} {m : Nt} {B bt : Nat} {es : Log} {keep : Nat} {add : Log} (hi : i < n) (hT : (nd i).term = T) (hmT : m.term = T) (hm : MsgOk n G nd f i m) (h5 : m.kind = 5) (ht : Trk B bt es (nd i).log) (hBc : B ≤ (nd i).commit) (h64 : (G.LL T).length < 18446744073709551615)
 (hr : meetR B bt es m.index m.at_ m.list = (keep, add, 0)) (hc : add = [] ∨ (nd i).commit ≤ keep) {x : Nd} (hxt : x.term = T) (hw : x.who = (nd i).who) (h2 : x.role ≠ 2) (h3 : x.role ≠ 3)
 (hl : x.log = if add = [] then (nd i).log else (nd i).log.take keep ++ add) (hxc : x.commit = max (nd i).commit (min m.commit (m.index + m.list.length))) :
 Inv n (ackG G T i (m.index + m.list.length)) (upd nd i x) ∧ (add ≠ [] → B ≤ keep ∧ keep ≤ (nd i).log.length) := by
 obtain ⟨a1, a2, a3, a4, a5, a6⟩ := hm.add h5
 rw [hmT] at a1 a2 a3 a4 a5 a6
 have hLd : G.Ld T ≠ none := by rw [a1]; simp
 have hgl := I.good i hi
 have hgm := I.good_LL T
 obtain ⟨cl, cc⟩ := I.com i hi
 rw [hT] at cc
 have hcm := I.com_has cc (Nat.le_refl _) hLd
 have hB : (nd i).log.take B <+: G.LL T := (take_take_pre _ hBc).trans hcm
 rw [a4] at hr
 rw [a3] at hr
 have hok := meet_ok ht hgl hgm hB a2 h64 hr
 have hgxc : ∀ l' : Log, (G.LL T).take (m.index + m.list.length) <+: l' → (nd i).log.take (nd i).commit <+: l' → x.log = l' → x.commit ≤ x.log.length ∧ ComC n G x.term (x.log.take x.commit) := by
  intro l' p1 p2 e
  have q1 := pre_len p1
  have q2 := pre_len p2
  rw [List.length_take, Nat.min_eq_left a2] at q1
  rw [List.length_take, Nat.min_eq_left cl] at q2
  rw [e, hxt]
  refine ⟨by omega, ?_⟩
  by_cases hcase : x.commit ≤ (nd i).commit
  · have e2 : x.commit = (nd i).commit := by omega
    rw [e2, take_of_pre p2 (by rw [List.length_take, Nat.min_eq_left cl]; exact Nat.le_refl _), List.take_take, Nat.min_self]
    exact cc
  · have e2 : x.commit ≤ m.index + m.list.length := by omega
    have e3 : x.commit ≤ m.commit := by omega
    rw [take_of_pre p1 (by rw [List.length_take, Nat.min_eq_left a2]; exact e2), List.take_take, Nat.min_eq_left e2]
    exact a6.of_pre (take_take_pre _ e3)
 have hmlen : m.index + m.list.length ≤ (G.LL x.term).length := by rw [hxt]; exact a2
 rcases hok with ⟨rfl, hp⟩ | ⟨hne, b1, b2, b3, b4, b5, b6, b7⟩
 · rw [if_pos rfl] at hl
   refine ⟨?_, fun h => absurd rfl h⟩
   have := I.take_log (m := m.index + m.list.length) hi (by rw [hxt, hT]) hw h2 h3 (by rw [hl]; exact hgl) (fun k hk => by rw [hl] at hk ⊢; rw [hxt, ← hT]; exact I.below i hi k hk) hmlen (by rw [hxt, hl]; exact hp)
    (fun U k h1 hk hpp => .inl (by rw [hl]; exact hpp)) (hgxc _ hp (take_pre _ _) hl)
   rw [hxt] at this
   exact this
 · rw [if_neg hne, b5] at hl
   have hkc : (nd i).commit ≤ keep := by
    rcases hc with h | h
    · exact absurd h hne
    · exact h
   refine ⟨?_, fun _ => ⟨b1, b2⟩⟩
   have := I.take_log (m := m.index + m.list.length) hi (by rw [hxt, hT]) hw h2 h3 (by rw [hl]; exact hgm.take _) (fun k hk => by
    rw [hl] at hk ⊢
    rw [List.length_take, Nat.min_eq_left a2] at hk
    rw [tAt_take hk, hxt]
    exact I.LL_below k (by omega)) hmlen (by rw [hxt, hl]; exact List.prefix_rfl)
    (by
      rw [hxt]
      exact I.kept hi hT hLd fun P hP hQ => by
       have := b7 P hP hQ
       rw [hl]
       exact pre_of_take hQ (by omega)) (hgxc _ List.prefix_rfl (by
      have e : (nd i).log.take (nd i).commit = (G.LL T).take (nd i).commit := by
       have := congrArg (List.take (nd i).commit) b6
       rw [List.take_take, List.take_take, Nat.min_eq_left hkc] at this
       exact this
      rw [e]
      exact take_take_pre _ (by omega)) hl)
   rw [hxt] at this
   exact this
theorem Inv.hear_has (I : Inv n G nd) {i T k : Nat} (hi : i < n) (hT : (nd i).term = T) (hL : G.Ld T ≠ none) (hk : k ≤ (nd i).commit) {x : Nd} (hxt : x.term = T) (hw : x.who = (nd i).who) (h2 : x.role ≠ 2) (h3 : x.role ≠ 3) (hl : x.log = (nd i).log) (hxc : x.commit = (nd i).commit) :
 Inv n (ackG G T i k) (upd nd i x) := by
 obtain ⟨cl, cc⟩ := I.com i hi
 have cc' := cc
 rw [hT] at cc
 have hcm := I.com_has cc (Nat.le_refl _) hL
 have hlen := pre_len hcm
 rw [List.length_take, Nat.min_eq_left cl] at hlen
 have e : (G.LL T).take k <+: (nd i).log := by
  rw [take_of_pre hcm (by rw [List.length_take, Nat.min_eq_left cl]; exact hk), List.take_take, Nat.min_eq_left hk]
  exact take_pre _ _
 have := I.take_log (m := k) hi (by rw [hxt, hT]) hw h2 h3 (by rw [hl]; exact I.good i hi) (fun j hj => by rw [hl] at hj ⊢; rw [hxt, ← hT]; exact I.below i hi j hj) (by rw [hxt]; omega) (by rw [hxt, hl]; exact e)
  (fun U j h1 hj hp => .inl (by rw [hl]; exact hp)) (by rw [hl, hxc, hxt, ← hT]; exact ⟨cl, cc'⟩)
 rw [hxt] at this
 exact this
theorem Inv.hear_shot (I : Inv n G nd) {i f T : Nat} {m : Nt} {B bt : Nat} {es : Log} (hi : i < n) (hT : (nd i).term = T) (hmT : m.term = T) (hm : MsgOk n G nd f i m) (h7 : m.kind = 7) (ht : Trk B bt es (nd i).log) (hBc : B ≤ (nd i).commit) (hc : (nd i).commit < m.index)
 {x : Nd} (hxt : x.term = T) (hw : x.who = (nd i).who) (h2 : x.role ≠ 2) (h3 : x.role ≠ 3) (hxc : x.commit = m.index)
 (hl : ((termAt B bt es m.index).2 = true ∧ (termAt B bt es m.index).1 = m.at_ ∧ x.log = (nd i).log) ∨ (¬ ((termAt B bt es m.index).2 = true ∧ (termAt B bt es m.index).1 = m.at_) ∧ x.log = (G.LL T).take m.index)) :
 Inv n (ackG G T i m.index) (upd nd i x) ∧ m.index ≤ x.log.length ∧ m.at_ = tAt x.log m.index := by
 obtain ⟨a1, a2, a3, a4⟩ := hm.shot h7
 rw [hmT] at a1 a2 a3 a4
 have hLd : G.Ld T ≠ none := by rw [a1]; simp
 have hgl := I.good i hi
 have hgm := I.good_LL T
 have hlen := ht.len
 have hmlen : m.index ≤ (G.LL x.term).length := by rw [hxt]; exact a2
 rcases hl with ⟨b1, b2, hl⟩ | ⟨hno, hl⟩
 · have hin : m.index ≤ (nd i).log.length := by
    apply Classical.byContradiction
    intro hn
    rw [ht.out (.inr (by omega))] at b1
    cases b1
   rw [ht.at (by omega) hin] at b2
   have e : (nd i).log.take m.index = (G.LL T).take m.index := hgl.agree hgm (by omega) hin a2 (by rw [← a3]; exact b2)
   have hp : (G.LL T).take m.index <+: (nd i).log := by rw [← e]; exact take_pre _ _
   refine ⟨?_, by rw [hl]; exact hin, by rw [hl]; exact b2.symm⟩
   have := I.take_log (m := m.index) hi (by rw [hxt, hT]) hw h2 h3 (by rw [hl]; exact hgl) (fun k hk => by rw [hl] at hk ⊢; rw [hxt, ← hT]; exact I.below i hi k hk) hmlen (by rw [hxt, hl]; exact hp)
    (fun U k h1 hk hpp => .inl (by rw [hl]; exact hpp)) (by rw [hl, hxc, hxt, e]; exact ⟨hin, a4⟩)
   rw [hxt] at this
   exact this
 · have hll : x.log.length = m.index := by rw [hl, List.length_take]; omega
   refine ⟨?_, by omega, by rw [hl, tAt_take (Nat.le_refl _)]; exact a3⟩
   have := I.take_log (m := m.index) hi (by rw [hxt, hT]) hw h2 h3 (by rw [hl]; exact hgm.take _) (fun k hk => by
    rw [hll] at hk
    rw [hl, tAt_take hk, hxt]
    exact I.LL_below k (by omega)) hmlen (by rw [hxt, hl]; exact List.prefix_rfl)
    (by
      rw [hxt]
      exact I.kept hi hT hLd fun P hP hQ => by
       rw [hl]
       by_cases hk : P.length ≤ m.index
       · exact pre_of_take hQ hk
       · exfalso
         have hlP := pre_len hP
         have hin : m.index ≤ (nd i).log.length := by omega
         refine hno ?_
         rw [ht.at (by omega) hin]
         refine ⟨rfl, ?_⟩
         rw [a3, ← tAt_prefix hP (by omega), ← tAt_prefix hQ (by omega)]) (by rw [hxc, hxt, hll]; exact ⟨Nat.le_refl _, by rw [hl, List.take_take, Nat.min_self]; exact a4⟩)
   rw [hxt] at this
   exact this
end
structure Rf where
 n : Nat
 id : Nat
 T : Nat
 term : Nat
 who : Int
 base : Nat
 bt : Nat
 es : Log
 commit : Nat
 role : Nat
 leader : Int
 left : Int
 quiet : Int
 beat : Int
 round : Nat
 sides : Nat → Bool
 next : Nat → Nat
 mt : Nat → Nat
structure Ou where
 add : Log
 send : List (Nat × Nt)
 need : List Nat
def Ou.none : Ou := ⟨[], [], []⟩
def tipT (T : Nat) (es : Log) : Nat := match es.getLast? with
 | .none => T
 | some e => e.1
def sliceR (B : Nat) (es : Log) (fr most : Nat) : Log := if fr ≤ B ∨ B + es.length < fr ∨ most < 1 then [] else (es.drop (fr - B - 1)).take most
namespace Rf
def last (r : Rf) : Nat := r.base + r.es.length
def tipt (r : Rf) : Nat := tipT r.bt r.es
def others (r : Rf) : List Nat := (List.range r.n).filter fun i => decide (i ≠ r.id)
def most (r : Rf) : Bool := decide (r.n < 2 * (List.range r.n).countP r.sides)
def draw (r : Rf) (d : Nat) : Rf := { r with left := (r.T : Int) + ((d % (r.T + 1) : Nat) : Int) }
def alone (r : Rf) : Rf := { r with sides := fun q => decide (q = r.id) }
def follow (r : Rf) (d : Nat) : Rf := ({ r with role := 0 } : Rf).draw d
def pulse (r : Rf) : Rf := { r with beat := max 1 ((r.T / 4 : Nat) : Int) }
def put (r : Rf) (o : Ou) (to : Nat) (x : Nt) : Ou := { o with send := o.send ++ [(to, { x with term := r.term })] }
def nt (k : Nat) : Nt := ⟨k, 0, 0, 0, 0, 0, false, []⟩
def askN (r : Rf) (k : Nat) : Nt := { nt k with index := r.last, at_ := r.tipt, round := if k = 1 then r.round else 0 }
def ask (r : Rf) (o : Ou) (k : Nat) : Ou := r.others.foldl (fun o i => r.put o i (r.askN k)) o
def addN (r : Rf) (i : Nat) : Nt := { nt 5 with index := r.next i - 1, at_ := (termAt r.base r.bt r.es (r.next i - 1)).1, commit := r.commit, list := sliceR r.base r.es (r.next i) 16 }
def update (r : Rf) (o : Ou) (i : Nat) : Ou := if r.next i ≤ r.base then { o with need := o.need ++ [i] } else r.put o i (r.addN i)
def updates (r : Rf) (o : Ou) : Ou := r.others.foldl (fun o i => r.update o i) o
def have_ (r : Rf) (k : Nat) : Nat := 1 + r.others.countP fun i => decide (k ≤ r.mt i)
def seeAt (r : Rf) : Nat → Nat
 | 0 => r.commit
 | k + 1 => if k + 1 ≤ r.commit then r.commit else if (termAt r.base r.bt r.es (k + 1)).1 ≠ r.term then r.commit else if r.n < 2 * r.have_ (k + 1) then k + 1 else r.seeAt k
def see (r : Rf) : Rf := { r with commit := r.seeAt r.last }
def add (r : Rf) (d : List UInt8) : Rf := { r with es := r.es ++ [(r.term, d)] }
def addO (r : Rf) (o : Ou) (d : List UInt8) : Ou := { o with add := o.add ++ [(r.term, d)] }
def lead0 (r : Rf) : Rf := { r with role := 3, leader := r.id, next := fun i => if i < r.n ∧ i ≠ r.id then r.last + 1 else r.next i, mt := fun i => if i < r.n ∧ i ≠ r.id then 0 else r.mt i }
def lead1 (r : Rf) : Rf := (r.lead0.add []).pulse.see
def lead (r : Rf) (o : Ou) : Rf × Ou := (r.lead1, r.lead1.updates (r.lead0.addO o []))
def tick (r : Rf) (d : Nat) : Rf × Ou :=
 if r.role = 3 then
  let r1 := { r with beat := r.beat - 1 }
  if r1.beat ≤ 0 then (r1.pulse, r1.pulse.updates Ou.none) else (r1, Ou.none)
 else
  let r1 := { r with quiet := min (r.quiet + 1) (r.T : Int), left := r.left - 1 }
  if 0 < r1.left then (r1, Ou.none)
  else if r1.role = 0 then
   let r2 := ({ r1 with role := 1, left := 2 * (r.T : Int), round := r.round + 1 } : Rf).alone
   (r2, r2.ask Ou.none 1)
  else if r1.role = 1 ∧ r1.most = true ∧ r1.term < 18446744073709551615 then
   let r2 := ({ r1 with role := 2, who := (r.id : Int), leader := -1, left := (r.T : Int), term := r.term + 1 } : Rf).alone
   let o := r2.ask Ou.none 3
   if r2.most then r2.lead o else (r2, o)
  else (r1.follow d, Ou.none)
def better (t i t' i' : Nat) : Bool := decide (t' < t) || (decide (t = t') && decide (i' < i))
def up (r : Rf) (t d : Nat) : Rf :=
 if r.term < t then
  let r1 := if r.role = 3 then r.draw d else r
  { r1 with term := t, who := -1, role := 0, leader := -1 }
 else r
def rankYes (r : Rf) (f : Nat) (x : Nt) (old : Bool) : Bool :=
 !old && ((better x.at_ x.index r.tipt r.last || (decide (x.at_ = r.tipt) && (decide (x.index = r.last) && decide (f < r.id)))) && (decide (r.role ≤ 1) && (decide (r.leader = -1) || decide ((r.T : Int) ≤ r.quiet))))
def rank (r : Rf) (f : Nat) (x : Nt) (old : Bool) (d : Nat) : Rf × Ou :=
 let yes := r.rankYes f x old
 let r1 := if yes then r.follow d else r
 let o := r1.put Ou.none f { nt 2 with round := x.round, yes := yes }
 (r1, if !old && decide (r1.role = 3) then r1.update o f else o)
def voteYes (r : Rf) (f : Nat) (x : Nt) (old : Bool) : Bool := !old && ((decide (r.who = -1) || decide (r.who = (f : Int))) && !better r.tipt r.last x.at_ x.index)
def vote (r : Rf) (f : Nat) (x : Nt) (old : Bool) (d : Nat) : Rf × Ou :=
 let yes := r.voteYes f x old
 let r1 := if yes then ({ r with who := (f : Int) } : Rf).follow d else r
 (r1, r1.put Ou.none f { nt 4 with yes := yes })
def answer (r : Rf) (o : Ou) (f index : Nat) (yes : Bool) : Ou := r.put o f { nt 6 with index := index, yes := yes }
def led1 (r1 : Rf) (f : Nat) (x : Nt) : Rf × Ou :=
 if x.kind = 7 then
  if x.index ≤ r1.commit then (r1, r1.answer Ou.none f r1.commit true)
  else
   let r2 := if (termAt r1.base r1.bt r1.es x.index).2 = true ∧ (termAt r1.base r1.bt r1.es x.index).1 = x.at_ then { r1 with base := x.index, bt := x.at_, es := r1.es.drop (x.index - r1.base), commit := x.index } else { r1 with base := x.index, bt := x.at_, es := [], commit := x.index }
   (r2, r2.answer Ou.none f x.index true)
 else
  let m := meetR r1.base r1.bt r1.es x.index x.at_ x.list
  if m.2.2 = 241 then (r1, r1.answer Ou.none f (min (max x.index 1 - 1) r1.last) false)
  else if m.2.2 = 240 then (r1, r1.answer Ou.none f r1.base true)
  else if m.2.1 ≠ [] ∧ m.1 < r1.commit then (r1, Ou.none)
  else
   let es' := if m.2.1 = [] then r1.es else r1.es.take (m.1 - r1.base) ++ m.2.1
   let there := x.index + x.list.length
   let r2 := { r1 with es := es', commit := max r1.commit (min x.commit there) }
   (r2, r2.answer { Ou.none with add := m.2.1 } f there true)
def led (r : Rf) (f : Nat) (x : Nt) (d : Nat) : Rf × Ou := led1 { r.follow d with leader := (f : Int), quiet := 0 } f x
def added (r : Rf) (f : Nat) (x : Nt) : Rf × Ou :=
 if x.yes = false then
  let r1 := { r with next := fun i => if i = f then max (min (r.next f - 1) (x.index + 1)) (r.mt f + 1) else r.next i }
  (r1, r1.update Ou.none f)
 else
  let m := max (r.mt f) (min x.index r.last)
  let r1 := { r with mt := fun i => if i = f then m else r.mt i, next := fun i => if i = f then m + 1 else r.next i }
  let r2 := r1.see
  (r2, if m + 1 ≤ r.last then r2.update Ou.none f else Ou.none)
def hear (r : Rf) (f : Nat) (x : Nt) (d : Nat) : Rf × Ou :=
 let r1 := r.up x.term d
 let old := decide (x.term < r1.term)
 if x.kind = 1 then r1.rank f x old d
 else if x.kind = 3 then r1.vote f x old d
 else if x.kind = 5 ∨ x.kind = 7 then
  if old then (r1, r1.put Ou.none f (nt 6))
  else if r1.role ≠ 3 then r1.led f x d else (r1, Ou.none)
 else if x.kind = 2 then
  if !old && (decide (r1.role = 1) && (decide (x.round = r1.round) && x.yes)) then ({ r1 with sides := fun i => if i = f then true else r1.sides i }, Ou.none) else (r1, Ou.none)
 else if x.kind = 4 then
  if !old && (decide (r1.role = 2) && x.yes) then
   let r2 := { r1 with sides := fun i => if i = f then true else r1.sides i }
   if r2.most then r2.lead Ou.none else (r2, Ou.none)
  else (r1, Ou.none)
 else if x.kind = 6 then
  if !old && decide (r1.role = 3) then r1.added f x else (r1, Ou.none)
 else (r1, Ou.none)
def propose (r : Rf) (d : List UInt8) : Rf × Ou :=
 if r.role ≠ 3 ∨ 3000 < d.length then (r, Ou.none)
 else
  let r1 := (r.add d).see
  (r1, r1.updates (r.addO Ou.none d))
def pack (r : Rf) : Rf := { r with base := r.commit, bt := (termAt r.base r.bt r.es r.commit).1, es := r.es.drop (r.commit - r.base) }
def crash (r : Rf) (d : Nat) : Rf :=
 ({ r with commit := r.base, role := 0, leader := -1, left := 0, quiet := (r.T : Int), beat := 0, round := 0, sides := fun _ => false, next := fun _ => 0, mt := fun _ => 0 } : Rf).draw d
def init (n id T d : Nat) : Rf := ({ n := n, id := id, T := T, term := 0, who := -1, base := 0, bt := 0, es := [], commit := 0, role := 0, leader := -1, left := 0, quiet := (T : Int), beat := 0, round := 0, sides := fun _ => false, next := fun _ => 0, mt := fun _ => 0 } : Rf).draw d
end Rf
end Go.Proofs.Yteellfgiejnigaa.RS
