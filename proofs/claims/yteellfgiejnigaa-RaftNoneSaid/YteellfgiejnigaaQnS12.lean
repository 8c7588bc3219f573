/- The mails' order: an unseen leader commits only when nobody that is up is of an elder term. -/
import Derived.Test.YteellfgiejnigaaQnS11
namespace Go.Proofs.Yteellfgiejnigaa.RS
set_option linter.unusedVariables false
section
variable {w : W} {G G' : Gh} {nd nd' : Nat → Nd} {l l' : Nat → Log}
theorem take_tail {m : Mail} {ms : List Mail} {k : Nat} {x : Mail} (h : x ∈ ms.take (k - 1)) : x ∈ (m :: ms).take k := by
  cases k with
  | zero => exact absurd h (by simp)
  | succ k => exact List.mem_cons_of_mem _ h
theorem take_head {m : Mail} {ms : List Mail} {k : Nat} {x : Mail} (h : x ∈ (m :: ms).take k) : x = m ∨ x ∈ ms.take (k - 1) := by
  cases k with
  | zero => exact absurd h (by simp)
  | succ k => exact List.mem_cons.1 h
/-- Whoever answers an unseen leader. -/
theorem FI.head {rem : Nat} {m : Mail} {ms : List Mail} (F : FI w (rem + 1)) (hm : w.mails = m :: ms) (ht : m.to < w.n) (hne : m.from_ ≠ m.to) (h6 : m.x.kind = 6) (hy : m.x.yes = true) (hr : (w.r m.to).role = 3) (he : (w.r m.to).term = m.x.term) :
    w.n < 2 ∨ w.leaders m.x.term ≠ none ∨ ∀ j, j < w.n → w.up j = true → j ≠ m.to → m.x.term ≤ (w.r j).term := by
  rcases F with F | F
  · exact .inl F
  · right
    by_cases hl : w.leaders m.x.term = none
    · right
      obtain ⟨k, hk, ha, hb⟩ := F m.to ht hr (by rw [he]; exact hl)
      rw [hm] at ha hb
      have k0 : k = 0 := by
        cases k with
        | zero => rfl
        | succ k => exact absurd ⟨hne, h6, hy, he.symm⟩ (ha m (List.mem_cons_self ..))
      subst k0
      intro j hj hu hji
      rcases hb with hb | hb
      · omega
      · rcases hb j hj hji hu with h | ⟨x, hx, _⟩
        · rw [he] at h; exact h
        · exact absurd hx (by simp)
    · exact .inl hl
theorem took_pre (w : W) (i : Nat) (res : Rf × Ou) : w.mails <+: (w.took i res).mails := by
  rw [W.took_mails]
  exact (room_pre _ _).trans (room_pre _ _)
theorem take_pre_mails {a b : List Mail} (h : a <+: b) {k : Nat} (hk : k ≤ a.length) : b.take k = a.take k := by
  obtain ⟨t, rfl⟩ := h
  rw [List.take_append_of_le_length hk]
theorem FI.step {rem : Nat} {m : Mail} {ms : List Mail} (I : WI w G nd l) (hn7 : w.n ≤ 7) (h200 : rem ≤ 200) (F : FI w (rem + 1)) (hm : w.mails = m :: ms) (hu : w.up m.to = true) (d : Nat)
    (X : Ext w.n m.to G G' (w.r m.to) (fun _ => True) True (w.heard m d)) (hmono : (w.r m.to).term ≤ (w.heard m d).1.term) (hx : m.from_ ≠ m.to → m.x.term ≤ (w.heard m d).1.term) : FI ((w.with_ ms).took m.to (w.heard m d)) rem := by
  obtain ⟨hf, ht, _, _⟩ := I.ml m (by rw [hm]; exact List.mem_cons_self ..)
  rcases F with F | F
  · exact .inl F
  by_cases hn2 : w.n < 2
  · exact .inl hn2
  right
  have hpre : ms <+: ((w.with_ ms).took m.to (w.heard m d)).mails := took_pre (w.with_ ms) m.to (w.heard m d)
  have hplen := hpre.length_le
  -- whoever was a leader of that term
  have old : ∀ i, i < w.n → (w.r i).role = 3 → w.leaders (w.r i).term = none → ((((w.with_ ms).took m.to (w.heard m d)).r i).term = (w.r i).term) →
      ∃ k, k ≤ ((w.with_ ms).took m.to (w.heard m d)).mails.length ∧ (∀ x, x ∈ ((w.with_ ms).took m.to (w.heard m d)).mails.take k → ¬ Ack i (w.r i).term x) ∧ (rem ≤ k ∨ ∀ q, q < w.n → q ≠ i → w.up q = true → (w.r i).term ≤ (((w.with_ ms).took m.to (w.heard m d)).r q).term ∨ ∃ x, x ∈ ((w.with_ ms).took m.to (w.heard m d)).mails.take k ∧ x.from_ = i ∧ x.to = q ∧ (w.r i).term ≤ x.x.term) := by
    intro i hi hr hl _
    obtain ⟨k, hk, ha, hb⟩ := F i hi hr hl
    rw [hm] at hk ha hb
    have hk1 : k - 1 ≤ ms.length := by have : (m :: ms).length = ms.length + 1 := rfl; omega
    refine ⟨k - 1, by omega, fun x hx' => ?_, ?_⟩
    · rw [take_pre_mails hpre hk1] at hx'
      exact ha x (take_tail hx')
    · rcases hb with hb | hb
      · left; omega
      · right
        intro q hq hqi hqu
        rw [take_pre_mails hpre hk1]
        by_cases e : q = m.to
        · subst e
          rw [W.took_same]
          rcases hb m.to hq hqi hqu with h | ⟨x, hx', h1, h2, h3⟩
          · left; omega
          · rcases take_head hx' with h | h
            · subst h
              left
              have := hx (by omega)
              omega
            · exact .inr ⟨x, h, h1, h2, h3⟩
        · rw [W.took_ne _ _ e]
          rcases hb q hq hqi hqu with h | ⟨x, hx', h1, h2, h3⟩
          · exact .inl h
          · rcases take_head hx' with h | h
            · subst h; exact absurd h2.symm e
            · exact .inr ⟨x, h, h1, h2, h3⟩
  intro i hi hr hl
  by_cases e : i = m.to
  · subst e
    have es := W.took_same (w.with_ ms) m.to (w.heard m d)
    rw [es] at hr hl
    rcases X.el hr with ⟨a, b⟩ | a | ⟨_, a, told⟩
    · have := old m.to hi a (by rw [b]; exact hl) (by rw [es]; exact b.symm)
      rw [es, ← b]
      exact this
    · exact absurd a hn2
    · rw [es]
      refine ⟨_, Nat.le_refl _, fun x hx' hack => ?_, ?_⟩
      · rw [List.take_length, W.took_mails] at hx'
        have hfrom : x ∈ ms := by
          rcases mem_room hx' with h | h
          · rcases mem_room h with h | h
            · exact h
            · obtain ⟨p, _, rfl⟩ := List.mem_map.1 h
              exact absurd rfl hack.1
          · obtain ⟨p, _, rfl⟩ := List.mem_map.1 h
            exact absurd rfl hack.1
        have hok := (I.ml x (by rw [hm]; exact List.mem_cons_of_mem _ hfrom)).2.2.1
        have := (hok.added hack.2.1 hack.2.2.1).1
        rw [hack.2.2.2] at this
        exact this a
      · by_cases hrem : rem ≤ ((w.with_ ms).took m.to (w.heard m d)).mails.length
        · exact .inl hrem
        · right
          intro q hq hqi hqu
          right
          rw [List.take_length, W.took_mails]
          have hcnt := X.cnt
          have e1 : (w.with_ ms).mails = ms := rfl
          have l1 : (W.sends m.to (w.heard m d).2).length = (w.heard m d).2.send.length := List.length_map ..
          have l2 : (W.needs m.to (w.heard m d).1 (w.heard m d).2).length = (w.heard m d).2.need.length := List.length_map ..
          rw [e1, room_all (ms := ms) (by rw [l1]; omega), room_all (by rw [List.length_append, l1, l2]; omega)]
          rcases told q hq hqi with h | ⟨p, hp, h1, h2⟩
          · exact ⟨_, List.mem_append.2 (.inr (List.mem_map.2 ⟨q, h, rfl⟩)), rfl, rfl, Nat.le_refl _⟩
          · exact ⟨_, List.mem_append.2 (.inl (List.mem_append.2 (.inr (List.mem_map.2 ⟨p, hp, rfl⟩)))), rfl, h1, by show _ ≤ p.2.term; rw [h2]; exact Nat.le_refl _⟩
  · have es := W.took_ne (w.with_ ms) (w.heard m d) e
    have es' : ((w.with_ ms).took m.to (w.heard m d)).r i = w.r i := es
    rw [es'] at hr hl ⊢
    exact old i hi hr hl (by rw [es'])
theorem FI.skip {rem : Nat} {m : Mail} {ms : List Mail} (F : FI w (rem + 1)) (hm : w.mails = m :: ms) (hu : m.to < w.n → w.up m.to ≠ true) : FI (w.with_ ms) rem := by
  rcases F with F | F
  · exact .inl F
  right
  intro i hi hr hl
  obtain ⟨k, hk, ha, hb⟩ := F i hi hr hl
  rw [hm] at hk ha hb
  have hk1 : k - 1 ≤ ms.length := by have : (m :: ms).length = ms.length + 1 := rfl; omega
  refine ⟨k - 1, hk1, fun x hx' => ha x (take_tail hx'), ?_⟩
  rcases hb with hb | hb
  · left; omega
  · right
    intro q hq hqi hqu
    rcases hb q hq hqi hqu with h | ⟨x, hx', h1, h2, h3⟩
    · exact .inl h
    · rcases take_head hx' with h | h
      · subst h
        subst h2
        exact absurd hqu (hu hq)
      · exact .inr ⟨x, h, h1, h2, h3⟩
theorem heard_terms (w : W) (m : Mail) (d : Nat) : (w.r m.to).term ≤ (w.heard m d).1.term ∧ (m.from_ ≠ m.to → m.x.term ≤ (w.heard m d).1.term) := by
  unfold W.heard
  by_cases e : m.from_ = m.to
  · rw [if_pos e]; exact ⟨Nat.le_refl _, fun h => absurd e h⟩
  · rw [if_neg e]
    obtain ⟨_, a2, _⟩ := (w.r m.to).hear_all m.from_ m.x d
    obtain ⟨_, b1, b2, _⟩ := (w.r m.to).up_all m.x.term d
    rw [a2]
    exact ⟨b1, fun _ => b2⟩
/-- A mail of the first in, first out. -/
theorem first_ok {rem B : Nat} {m : Mail} {ms : List Mail} (F : FI w (rem + 1)) (h200 : rem ≤ 200) (hB : B + 1 < 18446744073709551615) (hm : w.mails = m :: ms) (hP : Small w B) (d : Nat) : FI ((w.with_ ms).arrive m d) rem ∧ Small ((w.with_ ms).arrive m d) (B + 1) := by
  obtain ⟨n1, n7, G, nd, l, I, Z⟩ := hP
  have hms : ∀ x, x ∈ ms → x ∈ w.mails := fun x hx => by rw [hm]; exact List.mem_cons_of_mem _ hx
  have hin : m ∈ w.mails := by rw [hm]; exact List.mem_cons_self ..
  obtain ⟨hf, ht, _, _⟩ := I.ml m hin
  unfold W.arrive
  by_cases hu : w.up m.to = true
  · rw [if_pos ⟨ht, hu⟩]
    obtain ⟨G', nd', l', I', Z', k, X⟩ := I.mail Z hB hin hms (fun a b c e f => F.head hm ht a b c e f) hu d
    obtain ⟨t1, t2⟩ := heard_terms w m d
    exact ⟨F.step I n7 h200 hm hu d X t1 t2, n1, n7, G', nd', l', I', Z'⟩
  · rw [if_neg (fun h => hu h.2)]
    exact ⟨F.skip hm (fun _ => hu), n1, n7, G, nd, l, I.with_ hms, ⟨fun T => Nat.le_succ_of_le (Z.log T), fun j hj => Nat.le_succ_of_le (Z.term j hj)⟩⟩
theorem flow_ok (dr : Nat → Nat) : ∀ (rem h : Nat) (w : W) (B : Nat), rem ≤ 200 → B + rem < 18446744073709551615 → FI w rem → Small w B → Small (w.flow dr rem h) (B + rem) := by
  intro rem
  induction rem with
  | zero => intro h w B _ _ _ hP; exact hP
  | succ rem ih =>
    intro h w B h200 hB F hP
    show Small (match w.mails with | [] => w | m :: ms => W.flow dr rem (h + 1) ((w.with_ ms).arrive m (dr h))) (B + (rem + 1))
    cases hm : w.mails with
    | nil =>
      obtain ⟨n1, n7, G, nd, l, I, Z⟩ := hP
      exact ⟨n1, n7, G, nd, l, I, ⟨fun T => Nat.le_trans (Z.log T) (by omega), fun j hj => Nat.le_trans (Z.term j hj) (by omega)⟩⟩
    | cons m ms =>
      obtain ⟨F', P'⟩ := first_ok F (by omega) (by omega) hm hP (dr h)
      rw [show B + (rem + 1) = (B + 1) + rem by omega]
      exact ih (h + 1) _ (B + 1) (by omega) (by omega) F' P'
end
end Go.Proofs.Yteellfgiejnigaa.RS
