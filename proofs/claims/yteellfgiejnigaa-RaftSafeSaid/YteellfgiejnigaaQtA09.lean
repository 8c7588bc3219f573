/- RaftSafe: S13, S14, S15. -/
import Derived.Test.YteellfgiejnigaaQtA08
namespace Go.Proofs.Yteellfgiejnigaa.RS
set_option linter.unusedVariables false
def tell (cm : Log) (r : Rf) : Log := cm ++ (r.es.take (r.commit - r.base)).drop (cm.length - r.base)
namespace W
def look1 (w : W) (i : Nat) : W := { w with leaders := if (w.r i).role = 3 then (fun t => if t = (w.r i).term then some i else w.leaders t) else w.leaders, cm := tell w.cm (w.r i) }
def looks : Nat → Nat → W → W
 | 0, _, w => w
 | k + 1, h, w => looks k (h + 1) (w.look1 h)
end W
structure Look (w : W) (i : Nat) : Prop where
 one : (w.r i).role = 3 → w.leaders (w.r i).term = none ∨ w.leaders (w.r i).term = some i
 bc : (w.r i).base ≤ (w.r i).commit
 bm : (w.r i).base ≤ w.cm.length
 at_ : tAt w.cm (w.r i).base = (w.r i).bt
 len : ((w.r i).es.take ((w.r i).commit - (w.r i).base)).length = (w.r i).commit - (w.r i).base
 eq : ∀ j, j < (w.r i).commit - (w.r i).base → (w.r i).base + j < w.cm.length → w.cm[(w.r i).base + j]? = (w.r i).es[j]?
section
variable {w : W} {G G' : Gh} {nd nd' : Nat → Nd} {l l' : Nat → Log} {i : Nat}
theorem get_pre {a b : Log} (h : a <+: b) {j : Nat} (hj : j < a.length) : a[j]? = b[j]? := by
 obtain ⟨t, rfl⟩ := h
 rw [List.getElem?_append_left hj]
theorem WI.comp (I : WI w G nd l) (hi : i < w.n) : w.cm <+: (l i).take (w.r i).commit ∨ (l i).take (w.r i).commit <+: w.cm := by
 obtain ⟨U, hU⟩ := I.cm
 exact I.inv.com_comp hU (I.st i hi).com.2
theorem WI.look (I : WI w G nd l) (hi : i < w.n) : Look w i := by
 have S := I.st i hi
 have hcom := S.com.1
 have hbc := S.bc
 have hb := I.bs i hi
 have hl := S.trk.len
 have hP : ((l i).take (w.r i).commit).length = (w.r i).commit := by rw [List.length_take]; omega
 refine ⟨fun hr => ?_, hbc, hb, ?_, by rw [List.length_take]; omega, fun j hj hjm => ?_⟩
 · cases h : w.leaders (w.r i).term with
   | none => exact .inl rfl
   | some c =>
    right
    have h1 := I.ls _ c h
    have h2 := (I.inv.lead i hi (by rw [S.eq]; exact hr)).1
    rw [S.eq] at h2
    have h2' : G.Ld (w.r i).term = some i := h2
    rw [h1] at h2'
    rw [Option.some.inj h2']
 · rw [S.trk.term]
   rcases I.comp hi with h | h
   · rw [tAt_prefix h hb, tAt_take hbc]
   · rw [← tAt_prefix h (by omega), tAt_take hbc]
 · have e : (w.r i).es[j]? = ((l i).take (w.r i).commit)[(w.r i).base + j]? := by
    rw [S.trk.es, List.getElem?_drop, List.getElem?_take_of_lt (by omega)]
   rw [e]
   rcases I.comp hi with h | h
   · exact get_pre h hjm
   · exact (get_pre h (by omega)).symm
theorem tell_is {cm P : Log} {r : Rf} {l : Log} (ht : Trk r.base r.bt r.es l) (hc : r.commit ≤ l.length) (hb : r.base ≤ cm.length) (hbc : r.base ≤ r.commit) (hP : l.take r.commit = P) (h : cm <+: P ∨ P <+: cm) : (tell cm r = P ∧ cm <+: P) ∨ (tell cm r = cm ∧ P <+: cm) := by
 subst hP
 have e : (r.es.take (r.commit - r.base)).drop (cm.length - r.base) = (l.take r.commit).drop cm.length := by
  rw [ht.es, ← List.drop_take, List.drop_drop]
  congr 1
  omega
 unfold tell
 rw [e]
 rcases h with h | h
 · left
   refine ⟨?_, h⟩
   obtain ⟨t, ht⟩ := h
   rw [← ht, List.drop_left]
 · right
   refine ⟨?_, h⟩
   have := h.length_le
   rw [List.drop_eq_nil_of_le this, List.append_nil]
theorem tell_pre (cm : Log) (r : Rf) : cm <+: tell cm r := List.prefix_append _ _
theorem WI.look1 (I : WI w G nd l) (hi : i < w.n) : WI (w.look1 i) G nd l := by
 have S := I.st i hi
 have hcom := S.com
 have hle : w.cm.length ≤ (tell w.cm (w.r i)).length := (tell_pre _ _).length_le
 refine ⟨I.inv, I.st, fun m hm => ?_, fun j hj => Nat.le_trans (I.bs j hj) hle, I.dn, ?_, fun T hT => ?_, fun T c h => ?_⟩
 · obtain ⟨a, b, c, d⟩ := I.ml m hm
   exact ⟨a, b, c, fun h => Nat.le_trans (d h) hle⟩
 · rcases tell_is S.trk hcom.1 (I.bs i hi) S.bc rfl (I.comp hi) with ⟨e, _⟩ | ⟨e, _⟩
   · refine ⟨(w.r i).term, ?_⟩
     show ComC w.n G (w.r i).term (tell w.cm (w.r i))
     rw [e]; exact hcom.2
   · obtain ⟨U, hU⟩ := I.cm
     refine ⟨U, ?_⟩
     show ComC w.n G U (tell w.cm (w.r i))
     rw [e]; exact hU
 · rcases I.kk T hT with h | h
   · left
     show (if (w.r i).role = 3 then (fun t => if t = (w.r i).term then some i else w.leaders t) else w.leaders) T ≠ none
     split
     · show (if T = (w.r i).term then some i else w.leaders T) ≠ none
       split
       · exact fun e => by cases e
       · exact h
     · exact h
   · exact .inr h
 · have h' : (if (w.r i).role = 3 then (fun t => if t = (w.r i).term then some i else w.leaders t) else w.leaders) T = some c := h
   by_cases hr : (w.r i).role = 3
   · rw [if_pos hr] at h'
     have h'' : (if T = (w.r i).term then some i else w.leaders T) = some c := h'
     by_cases e : T = (w.r i).term
     · rw [if_pos e] at h''
       have := Option.some.inj h''
       subst this
       have h2 := (I.inv.lead i hi (by rw [S.eq]; exact hr)).1
       rw [S.eq] at h2
       rw [e]; exact h2
     · rw [if_neg e] at h''; exact I.ls T c h''
   · rw [if_neg hr] at h'; exact I.ls T c h'
def Saw (w : W) (i : Nat) : Prop := (w.r i).commit ≤ w.cm.length ∧ ((w.r i).role = 3 → w.leaders (w.r i).term ≠ none)
theorem WI.saw (I : WI w G nd l) (hi : i < w.n) : Saw (w.look1 i) i := by
 have S := I.st i hi
 have hcom := S.com
 have hP : ((l i).take (w.r i).commit).length = (w.r i).commit := by rw [List.length_take]; omega
 refine ⟨?_, fun hr => ?_⟩
 · show (w.r i).commit ≤ (tell w.cm (w.r i)).length
   rcases tell_is S.trk hcom.1 (I.bs i hi) S.bc rfl (I.comp hi) with ⟨e, _⟩ | ⟨e, h⟩
   · rw [e, hP]; exact Nat.le_refl _
   · rw [e]
     have := h.length_le
     omega
 · have hr' : (w.r i).role = 3 := hr
   show (if (w.r i).role = 3 then (fun t => if t = (w.r i).term then some i else w.leaders t) else w.leaders) (w.r i).term ≠ none
   rw [if_pos hr']
   show (if (w.r i).term = (w.r i).term then some i else _) ≠ none
   rw [if_pos rfl]
   exact fun e => by cases e
theorem Saw.look1 {j : Nat} (h : Saw w j) (i : Nat) : Saw (w.look1 i) j := by
 refine ⟨Nat.le_trans h.1 (tell_pre _ _).length_le, fun hr => ?_⟩
 have := h.2 hr
 show (if (w.r i).role = 3 then (fun t => if t = (w.r i).term then some i else w.leaders t) else w.leaders) (w.r j).term ≠ none
 split
 · show (if (w.r j).term = (w.r i).term then some i else w.leaders (w.r j).term) ≠ none
   split
   · exact fun e => by cases e
   · exact this
 · exact this
theorem looks_ok : ∀ (k h : Nat) (w : W) (B : Nat), h + k ≤ w.n → Small w B → (∀ j, j < h → Saw w j) → Small (w.looks k h) B ∧ (∀ j, j < h + k → Saw (w.looks k h) j) ∧ (w.looks k h).n = w.n := by
 intro k
 induction k with
 | zero => intro h w B _ hP hS; exact ⟨hP, hS, rfl⟩
 | succ k ih =>
  intro h w B hk hP hS
  obtain ⟨n1, n7, G, nd, l, I, Z⟩ := hP
  obtain ⟨a, b, c⟩ := ih (h + 1) (w.look1 h) B (by show h + 1 + k ≤ w.n; omega) ⟨n1, n7, G, nd, l, I.look1 (by omega), ⟨Z.log, Z.term⟩⟩ (fun j hj => by
   by_cases e : j = h
   · subst e; exact I.saw (by omega)
   · exact (hS j (by omega)).look1 h)
  exact ⟨a, fun j hj => b j (by omega), c⟩
structure Safe (w : W) : Prop where
 newest : ∀ i, i < w.n → (w.r i).role = 3 → (w.r i).last < w.cm.length → ∃ T, w.leaders T ≠ none ∧ (w.r i).term < T
 tip : ∀ i, i < w.n → (w.r i).tipt ≤ (w.r i).term
 agree : ∀ i k, i < w.n → k < w.n → ∀ low m, (w.r i).base ≤ low → (w.r k).base ≤ low → low < m → m ≤ (w.r i).last → m ≤ (w.r k).last → (termAt (w.r i).base (w.r i).bt (w.r i).es m).1 = (termAt (w.r k).base (w.r k).bt (w.r k).es m).1 →
  sliceR (w.r i).base (w.r i).es (low + 1) (m - low) = sliceR (w.r k).base (w.r k).es (low + 1) (m - low)
theorem Trk.piece {B T : Nat} {es l : Log} (h : Trk B T es l) {low m : Nat} (h1 : B ≤ low) (h2 : low < m) (h3 : m ≤ l.length) : sliceR B es (low + 1) (m - low) = (l.take m).drop low := by
 have hl := h.len
 unfold sliceR
 rw [if_neg (by omega)]
 rw [h.es, List.drop_drop, List.drop_take]
 congr 2
 omega
theorem WI.safe (I : WI w G nd l) (hS : ∀ j, j < w.n → Saw w j) : Safe w := by
 refine ⟨fun i hi hr hlt => ?_, fun i hi => ?_, fun i k hi hk low m h1 h2 h3 h4 h5 he => ?_⟩
 · apply Classical.byContradiction
   intro hn
   have S := I.st i hi
   have hri : (nd i).role = 3 := by rw [S.eq]; exact hr
   obtain ⟨U, hU⟩ := I.cm
   obtain ⟨l1, l2, _, _⟩ := I.inv.lead i hi hri
   rw [S.eq] at l1 l2
   have l1' : G.Ld (w.r i).term = some i := l1
   have l2' : l i = G.LL (w.r i).term := l2
   rw [S.last] at hlt
   rcases hU with h | ⟨T, X, _, hX, hp⟩
   · rw [h] at hlt; exact absurd hlt (by simp)
   · have hT : T ≤ (w.r i).term := by
      rcases I.kk T hX.1 with h | ⟨p, _, _, D⟩
      · apply Classical.byContradiction
        intro h2
        exact hn ⟨T, h, by omega⟩
      · apply Classical.byContradiction
        intro h2
        refine (D i hi ?_).1 hri
        rw [S.eq]
        show (w.r i).term < T
        omega
     have := (hp.trans (I.inv.has hX hT (by rw [l1']; simp))).length_le
     rw [← l2'] at this
     omega
 · have S := I.st i hi
   rw [S.tipt]
   have := I.inv.below i hi (l i).length (by rw [S.eq]; exact Nat.le_refl _)
   rw [S.eq] at this
   exact this
 · have Si := I.st i hi
   have Sk := I.st k hk
   rw [Si.last] at h4
   rw [Sk.last] at h5
   rw [Si.trk.at (by omega) h4, Sk.trk.at (by omega) h5] at he
   have gi := I.inv.good i hi
   have gk := I.inv.good k hk
   rw [Si.eq] at gi
   rw [Sk.eq] at gk
   have e : (l i).take m = (l k).take m := Good.agree gi gk (k := m) (by omega) h4 h5 he
   rw [Si.trk.piece h1 h3 h4, Sk.trk.piece h2 h3 h5, e]
end
structure Ev where
 kind : Int
 i : Nat
 k : Nat
 data : List UInt8
 draw : Nat
def dr (draw h : Nat) : Nat := (draw + h) % 18446744073709551616
namespace W
def mailAt (w : W) (k : Nat) : Mail := w.mails.getD k ⟨0, 0, Rf.nt 0⟩
def event (w : W) (e : Ev) : W :=
 if e.kind = 0 then w.tickOne e.i e.draw
 else if e.kind = 1 then (if w.mails = [] then w else (w.with_ (w.mails.eraseIdx e.k)).arrive (w.mailAt e.k) e.draw)
 else if e.kind = 2 then (if w.mails = [] then w else w.with_ (w.mails.eraseIdx e.k))
 else if e.kind = 3 then (if w.mails ≠ [] ∧ w.mails.length < 600 then w.with_ (w.mails ++ [w.mailAt e.k]) else w)
 else if e.kind = 4 then (if w.up e.i = true then w.took e.i ((w.r e.i).propose e.data) else w)
 else if e.kind = 5 then w.set e.i ((w.r e.i).crash e.draw)
 else if e.kind = 6 then { w.set e.i ((w.r e.i).crash e.draw) with up := fun j => if j = e.i then !w.up e.i else w.up j }
 else if e.kind = 7 then w.set e.i (w.r e.i).pack
 else if e.kind = 8 then (w.ticks (dr e.draw) w.n 0).flow (dr e.draw) 200 0
 else w
def first (n T : Nat) : W := ⟨n, T, fun i => Rf.init n i T i, fun _ => true, [], fun _ => none, []⟩
theorem took_none (w : W) (i : Nat) (r : Rf) : w.took i (r, Ou.none) = w.set i r := by
 have h : (w.took i (r, Ou.none)).mails = w.mails := by
  rw [took_mails]
  show (w.mails ++ List.take _ []) ++ List.take _ [] = w.mails
  simp
 show ({ w.set i r with mails := (w.took i (r, Ou.none)).mails } : W) = w.set i r
 rw [h]
 rfl
end W
structure Bd (w : W) (B : Nat) : Prop where
 small : Small w B
 saw : ∀ j, j < w.n → Saw w j
section
variable {w : W} {B : Nat}
theorem Small.mono (h : Small w B) {C : Nat} (hc : B ≤ C) : Small w C := by
 obtain ⟨n1, n7, G, nd, l, I, Z⟩ := h
 exact ⟨n1, n7, G, nd, l, I, ⟨fun T => Nat.le_trans (Z.log T) hc, fun j hj => Nat.le_trans (Z.term j hj) hc⟩⟩
theorem Bd.seen (h : Bd w B) : Seen w := .inr fun i hi hr => (h.saw i hi).2 hr
theorem Bd.crash (h : Bd w B) {i : Nat} (hi : i < w.n) (d : Nat) : ∃ G nd l, WI (w.set i ((w.r i).crash d)) G nd l ∧ Sz (w.set i ((w.r i).crash d)) G (B + 1) := by
 obtain ⟨n1, n7, G, nd, l, I, Z⟩ := h.small
 obtain ⟨nd1, S1, k1⟩ := (I.st i hi).crash d
 have hf : Fine w.n i G nd (w.r i) (fun _ => False) False ((w.r i).crash d, Ou.none) := ⟨G, nd1, l i, S1, k1, OutOk.none_ .., Ext.plain rfl rfl (fun h => absurd h (by show ¬ (0 : Nat) = 3; decide)) (Nat.zero_le _)⟩
 obtain ⟨G', nd', l', I', _, X⟩ := I.took hi hf (I.bs i hi) (fun _ => rfl) (fun p hp => by cases hp) (fun _ _ h => h.elim)
 rw [W.took_none] at I'
 refine ⟨G', nd', l', I', ?_⟩
 have := took_sz Z X (by show (w.r i).term ≤ B + 1; have := Z.term i hi; omega)
 rw [W.took_none] at this
 exact this
theorem Bd.event (h : Bd w B) (hB : B + 207 < 18446744073709551615) (e : Ev) (hi : e.i < w.n) (hk : w.mails ≠ [] → e.k < w.mails.length) : Small (w.event e) (B + 207) := by
 obtain ⟨n1, n7, G, nd, l, I, Z⟩ := h.small
 have hat : w.mails ≠ [] → w.mailAt e.k ∈ w.mails := fun hne => by
  unfold W.mailAt
  have := hk hne
  rw [List.getD_eq_getElem?_getD, List.getElem?_eq_getElem this]
  exact List.getElem_mem this
 have hsub : ∀ m, m ∈ w.mails.eraseIdx e.k → m ∈ w.mails := fun m hm => List.mem_of_mem_eraseIdx hm
 unfold W.event
 split
 · unfold W.tickOne
   split
   · rename_i hu
     obtain ⟨G', nd', l', I', Z', _⟩ := I.tick Z (by omega) h.seen hi hu e.draw
     exact Small.mono (B := B + 1) (by exact ⟨n1, n7, G', nd', l', I', Z'⟩) (by omega)
   · exact h.small.mono (by omega)
 split
 · split
   · exact h.small.mono (by omega)
   · rename_i hne
     have hin := hat hne
     obtain ⟨hf, ht, _, _⟩ := I.ml _ hin
     unfold W.arrive
     by_cases hu : w.up (w.mailAt e.k).to = true
     · rw [if_pos ⟨ht, hu⟩]
       obtain ⟨G', nd', l', I', Z', _, X⟩ := I.mail Z (by omega) hin hsub (fun _ _ _ hr he => .inr (.inl (by rw [← he]; exact (h.saw _ ht).2 hr))) hu e.draw
       exact Small.mono (B := B + 1) (by exact ⟨n1, n7, G', nd', l', I', Z'⟩) (by omega)
     · rw [if_neg (fun hh => hu hh.2)]
       exact Small.mono (B := B) (by exact ⟨n1, n7, G, nd, l, I.with_ hsub, ⟨Z.log, Z.term⟩⟩) (by omega)
 split
 · split
   · exact h.small.mono (by omega)
   · exact Small.mono (B := B) (by exact ⟨n1, n7, G, nd, l, I.with_ hsub, ⟨Z.log, Z.term⟩⟩) (by omega)
 split
 · split
   · rename_i hne
     refine Small.mono (B := B) ?_ (by omega)
     refine ⟨n1, n7, G, nd, l, I.with_ (fun m hm => ?_), ⟨Z.log, Z.term⟩⟩
     rcases List.mem_append.1 hm with hm | hm
     · exact hm
     · rw [List.mem_singleton.1 hm]; exact hat hne.1
   · exact h.small.mono (by omega)
 split
 · split
   · rename_i hu
     obtain ⟨t1, t2, t3⟩ := (w.r e.i).propose_all e.data
     obtain ⟨G', nd', l', I', _, X⟩ := I.took hi ((I.st _ hi).propose e.data) (by rw [t1]; exact I.bs _ hi) (fun h => by rw [hu] at h; cases h) t3 (fun T hT hc => .inl (by rw [← hc.2]; exact (h.saw _ hi).2 hc.1))
     exact Small.mono (B := B + 1) (by exact ⟨n1, n7, G', nd', l', I', took_sz Z X (by rw [t2]; have := Z.term _ hi; omega)⟩) (by omega)
   · exact h.small.mono (by omega)
 split
 · obtain ⟨G', nd', l', I', Z'⟩ := h.crash hi e.draw
   exact Small.mono (B := B + 1) (by exact ⟨n1, n7, G', nd', l', I', Z'⟩) (by omega)
 split
 · obtain ⟨G', nd', l', I', Z'⟩ := h.crash hi e.draw
   refine Small.mono (B := B + 1) ?_ (by omega)
   refine ⟨n1, n7, G', nd', l', ⟨I'.inv, I'.st, I'.ml, I'.bs, fun j hj hd => ?_, I'.cm, I'.kk, I'.ls⟩, ⟨Z'.log, Z'.term⟩⟩
   by_cases ej : j = e.i
   · subst ej
     show (if e.i = e.i then (w.r e.i).crash e.draw else w.r e.i).role = 0
     rw [if_pos rfl]; rfl
   · refine I'.dn j hj ?_
     have hd' : (if j = e.i then !w.up e.i else w.up j) = false := hd
     rw [if_neg ej] at hd'
     exact hd'
 split
 · have S := I.st e.i hi
   refine Small.mono (B := B) ?_ (by omega)
   refine ⟨n1, n7, G, nd, l, ⟨I.inv, fun j hj => ?_, I.ml, fun j hj => ?_, fun j hj hd => ?_, I.cm, I.kk, I.ls⟩, ⟨Z.log, fun j hj => ?_⟩⟩
   · show St w.n G nd j (if j = e.i then (w.r e.i).pack else w.r j) (l j)
     by_cases ej : j = e.i
     · subst ej; rw [if_pos rfl]; exact S.pack
     · rw [if_neg ej]; exact I.st j hj
   · show (if j = e.i then (w.r e.i).pack else w.r j).base ≤ w.cm.length
     by_cases ej : j = e.i
     · rw [if_pos ej]; exact (h.saw _ hi).1
     · rw [if_neg ej]; exact I.bs j hj
   · show (if j = e.i then (w.r e.i).pack else w.r j).role = 0
     by_cases ej : j = e.i
     · subst ej; rw [if_pos rfl]; exact I.dn _ hj hd
     · rw [if_neg ej]; exact I.dn j hj hd
   · show (if j = e.i then (w.r e.i).pack else w.r j).term ≤ B
     by_cases ej : j = e.i
     · subst ej; rw [if_pos rfl]; exact Z.term _ hj
     · rw [if_neg ej]; exact Z.term j hj
 split
 · obtain ⟨s, p⟩ := ticks_ok (dr e.draw) w.n 0 w B (by omega) (by omega) h.seen h.small
   exact (flow_ok (dr e.draw) 200 0 _ (B + w.n) (Nat.le_refl _) (by omega) (s.fi 200) p).mono (by omega)
 · exact h.small.mono (by omega)
theorem Small.bd (h : Small w B) : Bd (w.looks w.n 0) B ∧ Safe (w.looks w.n 0) ∧ (w.looks w.n 0).n = w.n := by
 obtain ⟨a, b, c⟩ := looks_ok w.n 0 w B (by omega) h (fun j hj => absurd hj (Nat.not_lt_zero _))
 have b' : ∀ j, j < (w.looks w.n 0).n → Saw (w.looks w.n 0) j := fun j hj => b j (by rw [c] at hj; omega)
 refine ⟨⟨a, b'⟩, ?_, c⟩
 obtain ⟨_, _, G, nd, l, I, _⟩ := a
 exact I.safe b'
end
theorem first_bd (n T : Nat) (h1 : 1 ≤ n) (h7 : n ≤ 7) : Bd (W.first n T) 0 := by
 refine ⟨⟨h1, h7, gh0, _, fun _ => [], ⟨inv0 n T (fun i => i), fun i hi => st0 n T (fun i => i) i hi, fun m hm => (by cases hm), fun i _ => Nat.zero_le _, fun i _ h => (by cases h), ⟨0, .inl rfl⟩, fun T h => h.elim, fun T c h => (by cases h)⟩, ⟨fun _ => Nat.zero_le _, fun i _ => Nat.zero_le _⟩⟩, fun j _ => ⟨Nat.zero_le _, fun h => absurd h (by show ¬ (0 : Nat) = 3; decide)⟩⟩
def Et (B : Nat) (e : Nat × List UInt8) : Prop := e.1 ≤ B ∧ e.2.length ≤ 3000
structure Mf (B : Nat) (x : Nt) : Prop where
 kind : 1 ≤ x.kind ∧ x.kind ≤ 7
 term : x.term ≤ B
 round : x.round ≤ B ∧ (x.kind ≠ 1 → x.kind ≠ 2 → x.round = 0)
 index : x.index ≤ B ∧ (x.kind = 2 ∨ x.kind = 4 → x.index = 0)
 at_ : x.at_ ≤ B ∧ (x.kind = 2 ∨ x.kind = 4 ∨ x.kind = 6 → x.at_ = 0)
 commit : x.commit ≤ B ∧ (x.kind ≠ 5 → x.commit = 0)
 yes : x.kind = 1 ∨ x.kind = 3 ∨ x.kind = 5 ∨ x.kind = 7 → x.yes = false
 list : x.list.length ≤ 16 ∧ (x.kind ≠ 5 → x.list = []) ∧ ∀ e, e ∈ x.list → Et B e
structure Fm (T B : Nat) (r : Rf) : Prop where
 tT : r.T = T
 T1 : 1 ≤ T
 id : r.id < r.n
 term : r.term ≤ B
 base : r.base ≤ B
 bt : r.bt ≤ B
 es : ∀ e, e ∈ r.es → Et B e
 commit : r.commit ≤ B
 role : r.role ≤ 3
 leader : -1 ≤ r.leader ∧ r.leader < (r.n : Int)
 left : 1 ≤ r.left ∧ r.left ≤ 2 * (T : Int)
 quiet : 0 ≤ r.quiet ∧ r.quiet ≤ (T : Int)
 beat : 0 ≤ r.beat ∧ r.beat ≤ (T : Int)
 round : r.round ≤ B
 next : ∀ q, r.next q ≤ B + 1
 mt : ∀ q, r.mt q ≤ B
theorem Et.mono {B C : Nat} {e : Nat × List UInt8} (h : Et B e) (hc : B ≤ C) : Et C e := ⟨Nat.le_trans h.1 hc, h.2⟩
theorem Mf.mono {B C : Nat} {x : Nt} (h : Mf B x) (hc : B ≤ C) : Mf C x :=
 ⟨h.kind, Nat.le_trans h.term hc, ⟨Nat.le_trans h.round.1 hc, h.round.2⟩, ⟨Nat.le_trans h.index.1 hc, h.index.2⟩, ⟨Nat.le_trans h.at_.1 hc, h.at_.2⟩, ⟨Nat.le_trans h.commit.1 hc, h.commit.2⟩, h.yes, h.list.1, h.list.2.1, fun e he => (h.list.2.2 e he).mono hc⟩
theorem Fm.mono {T B C : Nat} {r : Rf} (h : Fm T B r) (hc : B ≤ C) : Fm T C r :=
 ⟨h.tT, h.T1, h.id, Nat.le_trans h.term hc, Nat.le_trans h.base hc, Nat.le_trans h.bt hc, fun e he => (h.es e he).mono hc, Nat.le_trans h.commit hc, h.role, h.leader, h.left, h.quiet, h.beat, Nat.le_trans h.round hc, fun q => by have := h.next q; omega, fun q => Nat.le_trans (h.mt q) hc⟩
def OF (B : Nat) (o : Ou) : Prop := ∀ p, p ∈ o.send → Mf B p.2
section
variable {T B : Nat} {r : Rf} {o : Ou}
theorem of_none : OF B Ou.none := fun p h => by cases h
theorem OF.mono {C : Nat} (h : OF B o) (hc : B ≤ C) : OF C o := fun p hp => (h p hp).mono hc
theorem OF.put (h : OF B o) (r : Rf) (t : Nat) {x : Nt} (hx : Mf B { x with term := r.term }) : OF B (r.put o t x) := by
 intro p hp
 rcases List.mem_append.1 hp with hp | hp
 · exact h p hp
 · have : p = (t, { x with term := r.term }) := by simpa using hp
   subst this
   exact hx
theorem OF.fold {f : Ou → Nat → Ou} (hf : ∀ o q, OF B o → OF B (f o q)) : ∀ (qs : List Nat) {o : Ou}, OF B o → OF B (qs.foldl f o) := by
 intro qs
 induction qs with
 | nil => intro o h; exact h
 | cons q qs ih => intro o h; exact ih (hf o q h)
theorem Fm.tipt (h : Fm T B r) : r.tipt ≤ B := by
 unfold Rf.tipt tipT
 cases e : r.es.getLast? with
 | none => exact h.bt
 | some x => exact (h.es x (List.mem_of_getLast? e)).1
theorem Fm.termAt (h : Fm T B r) (k : Nat) : (RS.termAt r.base r.bt r.es k).1 ≤ B := by
 unfold RS.termAt
 split
 · exact Nat.zero_le _
 · split
   · exact h.bt
   · rw [List.getD_eq_getElem?_getD]
     cases e : r.es[k - r.base - 1]? with
     | none => exact Nat.zero_le _
     | some x => exact (h.es x (List.mem_of_getElem? e)).1
theorem Fm.slice (h : Fm T B r) (fr most : Nat) : ∀ e, e ∈ sliceR r.base r.es fr most → Et B e := by
 intro e he
 unfold sliceR at he
 split at he
 · cases he
 · exact h.es e (List.mem_of_mem_drop (List.mem_of_mem_take he))
theorem slice_len (b : Nat) (es : Log) (fr : Nat) : (sliceR b es fr 16).length ≤ 16 := by
 unfold sliceR
 split
 · exact Nat.zero_le _
 · rw [List.length_take]; omega
theorem Fm.addN (h : Fm T B r) (q : Nat) : Mf B { r.addN q with term := r.term } := by
 have hn := h.next q
 exact ⟨⟨by show 1 ≤ 5; decide, by show 5 ≤ 7; decide⟩, h.term, ⟨Nat.zero_le _, fun _ _ => rfl⟩, ⟨by show r.next q - 1 ≤ B; omega, fun e => by rcases e with e | e <;> exact absurd e (by show ¬ (5 : Nat) = _; decide)⟩, ⟨h.termAt _, fun e => by rcases e with e | e | e <;> exact absurd e (by show ¬ (5 : Nat) = _; decide)⟩, ⟨h.commit, fun e => absurd rfl e⟩, fun _ => rfl, slice_len _ _ _, fun e => absurd rfl e, h.slice _ _⟩
theorem Fm.askN (h : Fm T B r) (hl : r.last ≤ B) {k : Nat} (hk : k = 1 ∨ k = 3) : Mf B { r.askN k with term := r.term } := by
 have ht := h.tipt
 have hrd := h.round
 rcases hk with rfl | rfl
 · exact ⟨⟨by show 1 ≤ 1; decide, by show 1 ≤ 7; decide⟩, h.term, ⟨hrd, fun e _ => absurd rfl e⟩, ⟨hl, fun e => by rcases e with e | e <;> exact absurd e (by show ¬ (1 : Nat) = _; decide)⟩, ⟨ht, fun e => by rcases e with e | e | e <;> exact absurd e (by show ¬ (1 : Nat) = _; decide)⟩, ⟨Nat.zero_le _, fun _ => rfl⟩, fun _ => rfl, Nat.zero_le _, fun _ => rfl, fun e he => by cases he⟩
 · exact ⟨⟨by show 1 ≤ 3; decide, by show 3 ≤ 7; decide⟩, h.term, ⟨Nat.zero_le _, fun _ _ => rfl⟩, ⟨hl, fun e => by rcases e with e | e <;> exact absurd e (by show ¬ (3 : Nat) = _; decide)⟩, ⟨ht, fun e => by rcases e with e | e | e <;> exact absurd e (by show ¬ (3 : Nat) = _; decide)⟩, ⟨Nat.zero_le _, fun _ => rfl⟩, fun _ => rfl, Nat.zero_le _, fun _ => rfl, fun e he => by cases he⟩
theorem Fm.yield (h : Fm T B r) {rd : Nat} (hr : rd ≤ B) (y : Bool) : Mf B { ({ Rf.nt 2 with round := rd, yes := y } : Nt) with term := r.term } :=
 ⟨⟨by show 1 ≤ 2; decide, by show 2 ≤ 7; decide⟩, h.term, ⟨hr, fun _ e => absurd rfl e⟩, ⟨Nat.zero_le _, fun _ => rfl⟩, ⟨Nat.zero_le _, fun _ => rfl⟩, ⟨Nat.zero_le _, fun _ => rfl⟩, fun e => by rcases e with e | e | e | e <;> exact absurd e (by show ¬ (2 : Nat) = _; decide), Nat.zero_le _, fun _ => rfl, fun e he => by cases he⟩
theorem Fm.voted (h : Fm T B r) (y : Bool) : Mf B { ({ Rf.nt 4 with yes := y } : Nt) with term := r.term } :=
 ⟨⟨by show 1 ≤ 4; decide, by show 4 ≤ 7; decide⟩, h.term, ⟨Nat.zero_le _, fun _ _ => rfl⟩, ⟨Nat.zero_le _, fun _ => rfl⟩, ⟨Nat.zero_le _, fun _ => rfl⟩, ⟨Nat.zero_le _, fun _ => rfl⟩, fun e => by rcases e with e | e | e | e <;> exact absurd e (by show ¬ (4 : Nat) = _; decide), Nat.zero_le _, fun _ => rfl, fun e he => by cases he⟩
theorem Fm.answer (h : Fm T B r) {k : Nat} (hk : k ≤ B) (y : Bool) : Mf B { ({ Rf.nt 6 with index := k, yes := y } : Nt) with term := r.term } :=
 ⟨⟨by show 1 ≤ 6; decide, by show 6 ≤ 7; decide⟩, h.term, ⟨Nat.zero_le _, fun _ _ => rfl⟩, ⟨hk, fun e => by rcases e with e | e <;> exact absurd e (by show ¬ (6 : Nat) = _; decide)⟩, ⟨Nat.zero_le _, fun _ => rfl⟩, ⟨Nat.zero_le _, fun _ => rfl⟩, fun e => by rcases e with e | e | e | e <;> exact absurd e (by show ¬ (6 : Nat) = _; decide), Nat.zero_le _, fun _ => rfl, fun e he => by cases he⟩
theorem Fm.shot (h : Fm T B r) : Mf B (shotN r) :=
 ⟨⟨by show 1 ≤ 7; decide, by show 7 ≤ 7; decide⟩, h.term, ⟨Nat.zero_le _, fun _ _ => rfl⟩, ⟨h.base, fun e => by rcases e with e | e <;> exact absurd e (by show ¬ (7 : Nat) = _; decide)⟩, ⟨h.bt, fun e => by rcases e with e | e | e <;> exact absurd e (by show ¬ (7 : Nat) = _; decide)⟩, ⟨Nat.zero_le _, fun _ => rfl⟩, fun _ => rfl, Nat.zero_le _, fun _ => rfl, fun e he => by cases he⟩
theorem OF.update (h : OF B o) (f : Fm T B r) (q : Nat) : OF B (r.update o q) := by
 unfold Rf.update
 split
 · exact h
 · exact h.put r q (f.addN q)
theorem OF.updates (h : OF B o) (f : Fm T B r) : OF B (r.updates o) := OF.fold (fun o q h => h.update f q) _ h
theorem OF.ask (h : OF B o) (f : Fm T B r) (hl : r.last ≤ B) {k : Nat} (hk : k = 1 ∨ k = 3) : OF B (r.ask o k) := OF.fold (fun o q h => h.put r q (f.askN hl hk)) _ h
theorem Fm.draw (f : Fm T B r) (d : Nat) : Fm T B (r.draw d) := by
 have h1 : d % (r.T + 1) < r.T + 1 := Nat.mod_lt _ (Nat.succ_pos _)
 have hT := f.tT
 have hT1 := f.T1
 refine ⟨f.tT, f.T1, f.id, f.term, f.base, f.bt, f.es, f.commit, f.role, f.leader, ?_, f.quiet, f.beat, f.round, f.next, f.mt⟩
 show 1 ≤ (r.T : Int) + ((d % (r.T + 1) : Nat) : Int) ∧ (r.T : Int) + ((d % (r.T + 1) : Nat) : Int) ≤ 2 * (T : Int)
 omega
theorem Fm.follow (f : Fm T B r) (d : Nat) : Fm T B (r.follow d) :=
 Fm.draw (r := { r with role := 0 }) ⟨f.tT, f.T1, f.id, f.term, f.base, f.bt, f.es, f.commit, Nat.zero_le _, f.leader, f.left, f.quiet, f.beat, f.round, f.next, f.mt⟩ d
theorem Fm.pulse (f : Fm T B r) : Fm T B r.pulse := by
 have hT := f.tT
 have hT1 := f.T1
 refine ⟨f.tT, f.T1, f.id, f.term, f.base, f.bt, f.es, f.commit, f.role, f.leader, f.left, f.quiet, ?_, f.round, f.next, f.mt⟩
 show 0 ≤ max 1 ((r.T / 4 : Nat) : Int) ∧ max 1 ((r.T / 4 : Nat) : Int) ≤ (T : Int)
 omega
theorem Fm.see (f : Fm T B r) (hl : r.last ≤ B) : Fm T B r.see := by
 refine ⟨f.tT, f.T1, f.id, f.term, f.base, f.bt, f.es, ?_, f.role, f.leader, f.left, f.quiet, f.beat, f.round, f.next, f.mt⟩
 show r.seeAt r.last ≤ B
 rcases seeAt_is r r.last with h | ⟨_, h, _⟩
 · rw [h]; exact f.commit
 · omega
theorem Fm.add (f : Fm T B r) {d : List UInt8} (hd : d.length ≤ 3000) : Fm T B (r.add d) := by
 refine ⟨f.tT, f.T1, f.id, f.term, f.base, f.bt, fun e he => ?_, f.commit, f.role, f.leader, f.left, f.quiet, f.beat, f.round, f.next, f.mt⟩
 rcases List.mem_append.1 he with he | he
 · exact f.es e he
 · rw [List.mem_singleton.1 he]; exact ⟨f.term, hd⟩
theorem last_add (r : Rf) (d : List UInt8) : (r.add d).last = r.last + 1 := by
 show r.base + (r.es ++ [(r.term, d)]).length = r.base + r.es.length + 1
 rw [List.length_append]
 rfl
theorem Fm.lead (f : Fm T (B + 1) r) (hl : r.last ≤ B) (h : OF (B + 1) o) : Fm T (B + 1) (r.lead o).1 ∧ OF (B + 1) (r.lead o).2 := by
 have f0 : Fm T (B + 1) r.lead0 := by
  refine ⟨f.tT, f.T1, f.id, f.term, f.base, f.bt, f.es, f.commit, Nat.le_refl _, ?_, f.left, f.quiet, f.beat, f.round, fun q => ?_, fun q => ?_⟩
  · have := f.id
    show -1 ≤ (r.id : Int) ∧ (r.id : Int) < (r.n : Int)
    omega
  · show (if q < r.n ∧ q ≠ r.id then r.last + 1 else r.next q) ≤ B + 1 + 1
    split
    · omega
    · exact f.next q
  · show (if q < r.n ∧ q ≠ r.id then 0 else r.mt q) ≤ B + 1
    split
    · exact Nat.zero_le _
    · exact f.mt q
 have f1 := (f0.add (d := []) (Nat.zero_le _)).pulse
 have hl1 : (r.lead0.add []).pulse.last ≤ B + 1 := by
  have := last_add r.lead0 []
  show (r.lead0.add []).last ≤ B + 1
  rw [this]
  show r.last + 1 ≤ B + 1
  omega
 have f2 := f1.see hl1
 exact ⟨f2, OF.updates (o := r.lead0.addO o []) h f2⟩
end
end Go.Proofs.Yteellfgiejnigaa.RS
