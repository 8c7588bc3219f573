/- Events: what holds ahead of one holds behind it, and behind the look. -/
import Derived.Test.YteellfgiejnigaaQnS13
namespace Go.Proofs.Yteellfgiejnigaa.RS
set_option linter.unusedVariables false
structure Ev where
  kind : Int
  i : Nat
  k : Nat
  data : List UInt8
  draw : Nat
def dr (draw h : Nat) : Nat := (draw + h) % 18446744073709551616
namespace W
def mailAt (w : W) (k : Nat) : Mail := w.mails.getD k ⟨0, 0, Rf.nt 0⟩
def event (w : W) (e : Ev) : W :=
  if e.kind = 0 then w.tickOne e.i e.draw
  else if e.kind = 1 then (if w.mails = [] then w else (w.with_ (w.mails.eraseIdx e.k)).arrive (w.mailAt e.k) e.draw)
  else if e.kind = 2 then (if w.mails = [] then w else w.with_ (w.mails.eraseIdx e.k))
  else if e.kind = 3 then (if w.mails ≠ [] ∧ w.mails.length < 600 then w.with_ (w.mails ++ [w.mailAt e.k]) else w)
  else if e.kind = 4 then (if w.up e.i = true then w.took e.i ((w.r e.i).propose e.data) else w)
  else if e.kind = 5 then w.set e.i ((w.r e.i).crash e.draw)
  else if e.kind = 6 then { w.set e.i ((w.r e.i).crash e.draw) with up := fun j => if j = e.i then !w.up e.i else w.up j }
  else if e.kind = 7 then w.set e.i (w.r e.i).pack
  else if e.kind = 8 then (w.ticks (dr e.draw) w.n 0).flow (dr e.draw) 200 0
  else w
def first (n T : Nat) : W := ⟨n, T, fun i => Rf.init n i T i, fun _ => true, [], fun _ => none, []⟩
theorem took_none (w : W) (i : Nat) (r : Rf) : w.took i (r, Ou.none) = w.set i r := by
  have h : (w.took i (r, Ou.none)).mails = w.mails := by
    rw [took_mails]
    show (w.mails ++ List.take _ []) ++ List.take _ [] = w.mails
    simp
  show ({ w.set i r with mails := (w.took i (r, Ou.none)).mails } : W) = w.set i r
  rw [h]
  rfl
end W
/-- Between events. -/
structure Bd (w : W) (B : Nat) : Prop where
  small : Small w B
  saw : ∀ j, j < w.n → Saw w j
section
variable {w : W} {B : Nat}
theorem Small.mono (h : Small w B) {C : Nat} (hc : B ≤ C) : Small w C := by
  obtain ⟨n1, n7, G, nd, l, I, Z⟩ := h
  exact ⟨n1, n7, G, nd, l, I, ⟨fun T => Nat.le_trans (Z.log T) hc, fun j hj => Nat.le_trans (Z.term j hj) hc⟩⟩
theorem Bd.seen (h : Bd w B) : Seen w := .inr fun i hi hr => (h.saw i hi).2 hr
theorem Bd.crash (h : Bd w B) {i : Nat} (hi : i < w.n) (d : Nat) : ∃ G nd l, WI (w.set i ((w.r i).crash d)) G nd l ∧ Sz (w.set i ((w.r i).crash d)) G (B + 1) := by
  obtain ⟨n1, n7, G, nd, l, I, Z⟩ := h.small
  obtain ⟨nd1, S1, k1⟩ := (I.st i hi).crash d
  have hf : Fine w.n i G nd (w.r i) (fun _ => False) False ((w.r i).crash d, Ou.none) := ⟨G, nd1, l i, S1, k1, OutOk.none_ .., Ext.plain rfl rfl (fun h => absurd h (by show ¬ (0 : Nat) = 3; decide)) (Nat.zero_le _)⟩
  obtain ⟨G', nd', l', I', _, X⟩ := I.took hi hf (I.bs i hi) (fun _ => rfl) (fun p hp => by cases hp) (fun _ _ h => h.elim)
  rw [W.took_none] at I'
  refine ⟨G', nd', l', I', ?_⟩
  have := took_sz Z X (by show (w.r i).term ≤ B + 1; have := Z.term i hi; omega)
  rw [W.took_none] at this
  exact this
theorem Bd.event (h : Bd w B) (hB : B + 207 < 18446744073709551615) (e : Ev) (hi : e.i < w.n) (hk : w.mails ≠ [] → e.k < w.mails.length) : Small (w.event e) (B + 207) := by
  obtain ⟨n1, n7, G, nd, l, I, Z⟩ := h.small
  have hat : w.mails ≠ [] → w.mailAt e.k ∈ w.mails := fun hne => by
    unfold W.mailAt
    have := hk hne
    rw [List.getD_eq_getElem?_getD, List.getElem?_eq_getElem this]
    exact List.getElem_mem this
  have hsub : ∀ m, m ∈ w.mails.eraseIdx e.k → m ∈ w.mails := fun m hm => List.mem_of_mem_eraseIdx hm
  unfold W.event
  split
  · unfold W.tickOne
    split
    · rename_i hu
      obtain ⟨G', nd', l', I', Z', _⟩ := I.tick Z (by omega) h.seen hi hu e.draw
      exact Small.mono (B := B + 1) (by exact ⟨n1, n7, G', nd', l', I', Z'⟩) (by omega)
    · exact h.small.mono (by omega)
  split
  · split
    · exact h.small.mono (by omega)
    · rename_i hne
      have hin := hat hne
      obtain ⟨hf, ht, _, _⟩ := I.ml _ hin
      unfold W.arrive
      by_cases hu : w.up (w.mailAt e.k).to = true
      · rw [if_pos ⟨ht, hu⟩]
        obtain ⟨G', nd', l', I', Z', _, X⟩ := I.mail Z (by omega) hin hsub (fun _ _ _ hr he => .inr (.inl (by rw [← he]; exact (h.saw _ ht).2 hr))) hu e.draw
        exact Small.mono (B := B + 1) (by exact ⟨n1, n7, G', nd', l', I', Z'⟩) (by omega)
      · rw [if_neg (fun hh => hu hh.2)]
        exact Small.mono (B := B) (by exact ⟨n1, n7, G, nd, l, I.with_ hsub, ⟨Z.log, Z.term⟩⟩) (by omega)
  split
  · split
    · exact h.small.mono (by omega)
    · exact Small.mono (B := B) (by exact ⟨n1, n7, G, nd, l, I.with_ hsub, ⟨Z.log, Z.term⟩⟩) (by omega)
  split
  · split
    · rename_i hne
      refine Small.mono (B := B) ?_ (by omega)
      refine ⟨n1, n7, G, nd, l, I.with_ (fun m hm => ?_), ⟨Z.log, Z.term⟩⟩
      rcases List.mem_append.1 hm with hm | hm
      · exact hm
      · rw [List.mem_singleton.1 hm]; exact hat hne.1
    · exact h.small.mono (by omega)
  split
  · split
    · rename_i hu
      obtain ⟨t1, t2, t3⟩ := (w.r e.i).propose_all e.data
      obtain ⟨G', nd', l', I', _, X⟩ := I.took hi ((I.st _ hi).propose e.data) (by rw [t1]; exact I.bs _ hi) (fun h => by rw [hu] at h; cases h) t3 (fun T hT hc => .inl (by rw [← hc.2]; exact (h.saw _ hi).2 hc.1))
      exact Small.mono (B := B + 1) (by exact ⟨n1, n7, G', nd', l', I', took_sz Z X (by rw [t2]; have := Z.term _ hi; omega)⟩) (by omega)
    · exact h.small.mono (by omega)
  split
  · obtain ⟨G', nd', l', I', Z'⟩ := h.crash hi e.draw
    exact Small.mono (B := B + 1) (by exact ⟨n1, n7, G', nd', l', I', Z'⟩) (by omega)
  split
  · obtain ⟨G', nd', l', I', Z'⟩ := h.crash hi e.draw
    refine Small.mono (B := B + 1) ?_ (by omega)
    refine ⟨n1, n7, G', nd', l', ⟨I'.inv, I'.st, I'.ml, I'.bs, fun j hj hd => ?_, I'.cm, I'.kk, I'.ls⟩, ⟨Z'.log, Z'.term⟩⟩
    by_cases ej : j = e.i
    · subst ej
      show (if e.i = e.i then (w.r e.i).crash e.draw else w.r e.i).role = 0
      rw [if_pos rfl]; rfl
    · refine I'.dn j hj ?_
      have hd' : (if j = e.i then !w.up e.i else w.up j) = false := hd
      rw [if_neg ej] at hd'
      exact hd'
  split
  · have S := I.st e.i hi
    refine Small.mono (B := B) ?_ (by omega)
    refine ⟨n1, n7, G, nd, l, ⟨I.inv, fun j hj => ?_, I.ml, fun j hj => ?_, fun j hj hd => ?_, I.cm, I.kk, I.ls⟩, ⟨Z.log, fun j hj => ?_⟩⟩
    · show St w.n G nd j (if j = e.i then (w.r e.i).pack else w.r j) (l j)
      by_cases ej : j = e.i
      · subst ej; rw [if_pos rfl]; exact S.pack
      · rw [if_neg ej]; exact I.st j hj
    · show (if j = e.i then (w.r e.i).pack else w.r j).base ≤ w.cm.length
      by_cases ej : j = e.i
      · rw [if_pos ej]; exact (h.saw _ hi).1
      · rw [if_neg ej]; exact I.bs j hj
    · show (if j = e.i then (w.r e.i).pack else w.r j).role = 0
      by_cases ej : j = e.i
      · subst ej; rw [if_pos rfl]; exact I.dn _ hj hd
      · rw [if_neg ej]; exact I.dn j hj hd
    · show (if j = e.i then (w.r e.i).pack else w.r j).term ≤ B
      by_cases ej : j = e.i
      · subst ej; rw [if_pos rfl]; exact Z.term _ hj
      · rw [if_neg ej]; exact Z.term j hj
  split
  · obtain ⟨s, p⟩ := ticks_ok (dr e.draw) w.n 0 w B (by omega) (by omega) h.seen h.small
    exact (flow_ok (dr e.draw) 200 0 _ (B + w.n) (Nat.le_refl _) (by omega) (s.fi 200) p).mono (by omega)
  · exact h.small.mono (by omega)
/-- Behind the look. -/
theorem Small.bd (h : Small w B) : Bd (w.looks w.n 0) B ∧ Safe (w.looks w.n 0) ∧ (w.looks w.n 0).n = w.n := by
  obtain ⟨a, b, c⟩ := looks_ok w.n 0 w B (by omega) h (fun j hj => absurd hj (Nat.not_lt_zero _))
  have b' : ∀ j, j < (w.looks w.n 0).n → Saw (w.looks w.n 0) j := fun j hj => b j (by rw [c] at hj; omega)
  refine ⟨⟨a, b'⟩, ?_, c⟩
  obtain ⟨_, _, G, nd, l, I, _⟩ := a
  exact I.safe b'
end
end Go.Proofs.Yteellfgiejnigaa.RS
