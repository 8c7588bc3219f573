/- Replies: their forms are read back; what is read well is its form. Plain. -/
import Derived.Test.YtoflehlkacofjaaQfC1
namespace Go.Proofs.Ytoflehlkacofjaa
open Go.ChangeShapes Go.WideShapes Go.ChangeAt Go.RowKit
set_option linter.unusedVariables false
/-- A way of reading one element, and its form. -/
structure StepOf {α : Type} (b : List UInt8) (step : Nat → Int → α × Nat × Int) (enc : α → List UInt8) (ok : α → Prop) : Prop where
  good : ∀ a e, (step a e).2.2 = 0 → e = 0 ∧ (step a e).2.1 = a + (enc (step a e).1).length ∧ b.drop a = enc (step a e).1 ++ b.drop (step a e).2.1
  form : ∀ a x t, ok x → b.drop a = enc x ++ t → step a 0 = (x, a + (enc x).length, 0)
  some_ : ∀ x, 0 < (enc x).length
  rok : ∀ a e, ok (step a e).1
theorem s64_of (b : List UInt8) : StepOf b (s64 b) Form.nat (fun n => n < 2 ^ 64) where
  good := fun a e h => by
    have := Form.small_good (b := b) (a := a) (e := e) (most := 18446744073709551615) (n := (s64 b a e).1) (a' := (s64 b a e).2.1) (Prod.ext rfl (Prod.ext rfl h))
    exact this
  form := fun a x t hx h => Form.small_at b t x a _ (by omega) (by decide) h
  some_ := fun x => Form.nat_pos x
  rok := fun a e => s64_lt b a e
theorem s32_of (b : List UInt8) : StepOf b (s32 b) Form.nat (fun n => n < 2 ^ 32) where
  good := fun a e h => by
    have := Form.small_good (b := b) (a := a) (e := e) (most := 4294967295) (n := (s32 b a e).1) (a' := (s32 b a e).2.1) (Prod.ext rfl (Prod.ext rfl h))
    exact this
  form := fun a x t hx h => Form.small_at b t x a _ (by omega) (by decide) h
  some_ := fun x => Form.nat_pos x
  rok := fun a e => s32_lt b a e
theorem sTr_of (b : List UInt8) : StepOf b (sTr b) Tr.form Tr.ok where
  good := fun a e h => by
    obtain ⟨n1, a1, e1, h1⟩ : ∃ n a1 e1, s64 b a e = (n, a1, e1) := ⟨_, _, _, rfl⟩
    obtain ⟨n2, a2, e2, h2⟩ : ∃ n a2 e2, s64 b a1 e1 = (n, a2, e2) := ⟨_, _, _, rfl⟩
    obtain ⟨n3, a3, e3, h3⟩ : ∃ n a3 e3, s64 b a2 e2 = (n, a3, e3) := ⟨_, _, _, rfl⟩
    obtain ⟨n4, a4, e4, h4⟩ : ∃ n a4 e4, s32 b a3 e3 = (n, a4, e4) := ⟨_, _, _, rfl⟩
    have hE : sTr b a e = (⟨Form.unfold_ n1, Form.unfold_ n2, n3, n4⟩, a4, e4) := by
      unfold sTr
      simp only [h1, h2, h3, h4]
    rw [hE] at h ⊢
    dsimp only at h ⊢
    have g4 := (s32_of b).good a3 e3 (by rw [h4]; exact h)
    rw [h4] at g4
    have g3 := (s64_of b).good a2 e2 (by rw [h3]; exact g4.1)
    rw [h3] at g3
    have g2 := (s64_of b).good a1 e1 (by rw [h2]; exact g3.1)
    rw [h2] at g2
    have g1 := (s64_of b).good a e (by rw [h1]; exact g2.1)
    rw [h1] at g1
    dsimp only at g1 g2 g3 g4
    refine ⟨g1.1, ?_, ?_⟩
    · unfold Tr.form
      simp only [List.length_append, Form.fold_unfold]
      rw [g4.2.1, g3.2.1, g2.2.1, g1.2.1]; omega
    · unfold Tr.form
      simp only [Form.fold_unfold]
      rw [g1.2.2, g2.2.2, g3.2.2, g4.2.2]
      simp only [List.append_assoc]
  form := fun a x t hx h => by
    obtain ⟨p, q, n, c⟩ := x
    unfold Tr.form at h ⊢
    dsimp only at h ⊢
    simp only [List.append_assoc] at h
    have k1 := (s64_of b).form a _ _ (Form.fold_lt hx.price.1 hx.price.2) h
    have d1 : b.drop (a + (Form.nat (Form.fold p)).length) = Form.nat (Form.fold q) ++ (Form.nat n ++ (Form.nat c ++ t)) := by rw [← List.drop_drop, h, List.drop_left]
    have k2 := (s64_of b).form _ _ _ (Form.fold_lt hx.qty.1 hx.qty.2) d1
    have d2 : b.drop (a + (Form.nat (Form.fold p)).length + (Form.nat (Form.fold q)).length) = Form.nat n ++ (Form.nat c ++ t) := by rw [← List.drop_drop, d1, List.drop_left]
    have k3 := (s64_of b).form _ _ _ hx.number d2
    have d3 : b.drop (a + (Form.nat (Form.fold p)).length + (Form.nat (Form.fold q)).length + (Form.nat n).length) = Form.nat c ++ t := by rw [← List.drop_drop, d2, List.drop_left]
    have k4 := (s32_of b).form _ _ _ hx.account d3
    unfold sTr
    dsimp only at k1 k2 k3 k4
    simp only [k1, k2, k3, k4, Form.unfold_fold]
    simp only [List.length_append, Nat.add_assoc]
  some_ := fun x => by
    unfold Tr.form
    simp only [List.length_append]
    have := Form.nat_pos x.account
    omega
  rok := fun a e => sTr_ok b a e

section
variable {α : Type} {b : List UInt8} {step : Nat → Int → α × Nat × Int} {enc : α → List UInt8} {ok : α → Prop}
theorem stN_good (S : StepOf b step enc ok) (a : Nat) (e : Int) : ∀ k, (stN step a e k).2 = 0 → e = 0 ∧ (stN step a e k).1 = a + ((elN step a e k).flatMap enc).length ∧ b.drop a = (elN step a e k).flatMap enc ++ b.drop (stN step a e k).1
  | 0, h => ⟨h, by simp [elN, stN], by simp [elN, stN]⟩
  | k + 1, h => by
    have g := S.good (stN step a e k).1 (stN step a e k).2 h
    obtain ⟨h1, h2, h3⟩ := stN_good S a e k g.1
    rw [elN_succ, List.flatMap_append]
    refine ⟨h1, ?_, ?_⟩
    · show (step _ _).2.1 = _
      rw [g.2.1, h2]; simp; omega
    · show _ = _ ++ b.drop (step _ _).2.1
      rw [h3, g.2.2]; simp
theorem stN_ok (S : StepOf b step enc ok) (a : Nat) (e : Int) (k : Nat) : ∀ x ∈ elN step a e k, ok x := by
  intro x hx
  unfold elN at hx
  obtain ⟨i, _, rfl⟩ := List.mem_map.1 hx
  exact S.rok _ _
theorem stN_form (S : StepOf b step enc ok) (l : List α) (hl : ∀ x ∈ l, ok x) (a : Nat) (t : List UInt8) (h : b.drop a = l.flatMap enc ++ t) : ∀ k, k ≤ l.length → stN step a 0 k = (a + ((l.take k).flatMap enc).length, 0) ∧ elN step a 0 k = l.take k
  | 0, _ => ⟨by simp [stN], by simp [elN]⟩
  | k + 1, hk => by
    obtain ⟨h1, h2⟩ := stN_form S l hl a t h k (by omega)
    have hlt : k < l.length := by omega
    have hd : b.drop (a + ((l.take k).flatMap enc).length) = enc l[k] ++ ((l.drop (k + 1)).flatMap enc ++ t) := by
      have e1 : l.flatMap enc = (l.take k).flatMap enc ++ (enc l[k] ++ (l.drop (k + 1)).flatMap enc) := by
        conv => lhs; rw [← List.take_append_drop k l, List.flatMap_append, List.drop_eq_getElem_cons hlt, List.flatMap_cons]
      rw [← List.drop_drop, h, e1, List.append_assoc, List.drop_left, List.append_assoc]
    have hs := S.form _ l[k] _ (hl _ (List.getElem_mem hlt)) hd
    have e2 : l.take (k + 1) = l.take k ++ [l[k]] := by simp
    refine ⟨?_, ?_⟩
    · show (step _ _).2 = _
      rw [h1, hs, e2, List.flatMap_append, List.length_append]; simp only [List.flatMap_cons, List.flatMap_nil, List.append_nil, Nat.add_assoc]
    · rw [elN_succ, h1, h2, hs, e2]
/-- What a list is written as. -/
def lstF (enc : α → List UInt8) (l : List α) : List UInt8 := Form.nat l.length ++ l.flatMap enc
/-- A list that was read well. -/
structure LGood (b : List UInt8) (enc : α → List UInt8) (ok : α → Prop) (a : Nat) (e : Int) (l : List α) (a' : Nat) : Prop where
  e0 : e = 0
  at_ : a' = a + (lstF enc l).length
  eq : b.drop a = lstF enc l ++ b.drop a'
  len : l.length ≤ 4000
  ok : ∀ x ∈ l, ok x
theorem TkRel.good (S : StepOf b step enc ok) {a : Nat} {e : Int} {l : List α} {a' : Nat} (h : TkRel step b a e l a' 0) : LGood b enc ok a e l a' := by
  rcases h with ⟨hl, hst, _⟩ | ⟨_, k, _, _, _, he⟩
  · obtain ⟨n, a1, e1, hs⟩ : ∃ n a1 e1, Form.small b a e 4000 = (n, a1, e1) := ⟨_, _, _, rfl⟩
    have hn := small_top b a e 4000
    rw [hs] at hl hst hn
    dsimp only at hl hst hn
    have g := stN_good S a1 e1 n (by rw [← hst])
    rw [← hst, ← hl] at g
    dsimp only at g
    obtain ⟨g1, g2, g3⟩ := g
    subst g1
    obtain ⟨k1, k2, k3⟩ := Form.small_good hs
    have hll : l.length = n := by rw [hl, elN_len]
    refine ⟨k1, ?_, ?_, by omega, by rw [hl]; exact stN_ok S _ _ _⟩
    · unfold lstF; rw [List.length_append, hll, g2, k2]; omega
    · unfold lstF; rw [hll, k3, g3, List.append_assoc]
  · exfalso
    split at he
    · exact absurd he (by decide)
    · rename_i h0; exact h0 he.symm
theorem TkRel.form (S : StepOf b step enc ok) {a : Nat} {l : List α} {t : List UInt8} (hok : ∀ x ∈ l, ok x) (hlen : l.length ≤ 4000) (hd : b.drop a = lstF enc l ++ t) {l' : List α} {a' : Nat} {e' : Int} (h : TkRel step b a 0 l' a' e') : l' = l ∧ a' = a + (lstF enc l).length ∧ e' = 0 := by
  unfold lstF at hd ⊢
  rw [List.append_assoc] at hd
  have hs := Form.small_at b _ l.length a 4000 hlen (by decide) hd
  have hd2 : b.drop (a + (Form.nat l.length).length) = l.flatMap enc ++ t := by rw [← List.drop_drop, hd, List.drop_left]
  have hf := stN_form S l hok _ t hd2
  rcases h with ⟨hl, hst, _⟩ | ⟨_, k, hk, hge, _, _⟩
  · rw [hs] at hl hst
    dsimp only at hl hst
    obtain ⟨f1, f2⟩ := hf l.length (Nat.le_refl _)
    rw [List.take_length] at f1 f2
    rw [f1] at hst
    rw [f2] at hl
    cases hst
    exact ⟨hl, by rw [List.length_append, Nat.add_assoc], rfl⟩
  · exfalso
    rw [hs] at hk hge
    dsimp only at hk hge
    obtain ⟨f1, _⟩ := hf k (Nat.le_of_lt hk)
    rw [f1] at hge
    dsimp only at hge
    have hl := congrArg List.length hd2
    have e1 : l.flatMap enc = (l.take k).flatMap enc ++ (enc l[k] ++ (l.drop (k + 1)).flatMap enc) := by
      conv => lhs; rw [← List.take_append_drop k l, List.flatMap_append, List.drop_eq_getElem_cons hk, List.flatMap_cons]
    rw [e1] at hl
    simp only [List.length_drop, List.length_append] at hl
    have := S.some_ l[k]
    omega
/-- What the document's loop gives. -/
def RkRel (step : Nat → Int → α × Nat × Int) (b : List UInt8) (a : Nat) (e : Int) (l : List α) (a' : Nat) (e' : Int) : Prop :=
  ∃ k, k ≤ (Form.small b a e 4000).1 ∧ l = elN step (Form.small b a e 4000).2.1 (Form.small b a e 4000).2.2 k ∧ (a', e') = stN step (Form.small b a e 4000).2.1 (Form.small b a e 4000).2.2 k ∧ (k = (Form.small b a e 4000).1 ∨ e' ≠ 0)
theorem RkRel.good (S : StepOf b step enc ok) {a : Nat} {e : Int} {l : List α} {a' : Nat} (h : RkRel step b a e l a' 0) : LGood b enc ok a e l a' := by
  obtain ⟨k, hk, hl, hst, hkn⟩ := h
  obtain ⟨n, a1, e1, hs⟩ : ∃ n a1 e1, Form.small b a e 4000 = (n, a1, e1) := ⟨_, _, _, rfl⟩
  have hn := small_top b a e 4000
  rw [hs] at hl hst hn hk hkn
  dsimp only at hl hst hn hk hkn
  have hkn' : k = n := by
    rcases hkn with h | h
    · exact h
    · exact absurd rfl h
  subst hkn'
  have g := stN_good S a1 e1 k (by rw [← hst])
  rw [← hst, ← hl] at g
  dsimp only at g
  obtain ⟨g1, g2, g3⟩ := g
  subst g1
  obtain ⟨k1, k2, k3⟩ := Form.small_good hs
  have hll : l.length = k := by rw [hl, elN_len]
  refine ⟨k1, ?_, ?_, by omega, by rw [hl]; exact stN_ok S _ _ _⟩
  · unfold lstF; rw [List.length_append, hll, g2, k2]; omega
  · unfold lstF; rw [hll, k3, g3, List.append_assoc]
theorem RkRel.form (S : StepOf b step enc ok) {a : Nat} {l : List α} {t : List UInt8} (hok : ∀ x ∈ l, ok x) (hlen : l.length ≤ 4000) (hd : b.drop a = lstF enc l ++ t) {l' : List α} {a' : Nat} {e' : Int} (h : RkRel step b a 0 l' a' e') : l' = l ∧ a' = a + (lstF enc l).length ∧ e' = 0 := by
  unfold lstF at hd ⊢
  rw [List.append_assoc] at hd
  have hs := Form.small_at b _ l.length a 4000 hlen (by decide) hd
  have hd2 : b.drop (a + (Form.nat l.length).length) = l.flatMap enc ++ t := by rw [← List.drop_drop, hd, List.drop_left]
  have hf := stN_form S l hok _ t hd2
  obtain ⟨k, hk, hl, hst, hkn⟩ := h
  rw [hs] at hl hst hk hkn
  dsimp only at hl hst hk hkn
  obtain ⟨f1, f2⟩ := hf k hk
  rw [f1] at hst
  cases hst
  have hkn' : k = l.length := by
    rcases hkn with h | h
    · exact h
    · exact absurd rfl h
  subst hkn'
  rw [List.take_length] at f2 ⊢
  rw [f2] at hl
  exact ⟨hl, by rw [List.length_append, Nat.add_assoc], rfl⟩
end
/-- A reply is what the bytes say. -/
def RpOf (b : List UInt8) (x : Rp) : Prop := x.ok ∧ x.mayB = true ∧ x.form = b
/-- No reply is. -/
def RpNone (b : List UInt8) : Prop := ∀ x, ¬ RpOf b x
/-- What is read of bytes as a reply: behind an error nothing, else three numbers and three lists, each by its relation. -/
def RdRp (b : List UInt8) (TR : Nat → Int → List Tr → Nat → Int → Prop) (GR AR : Nat → Int → List Nat → Nat → Int → Prop) (x : Rp) (a' : Nat) (e' : Int) : Prop :=
  ((Form.small b 0 0 999).1 ≠ 0 ∧ x = ⟨((Form.small b 0 0 999).1 : Int), 0, 0, 0, [], [], []⟩ ∧ (a', e') = (Form.small b 0 0 999).2) ∨
  ((Form.small b 0 0 999).1 = 0 ∧ ∃ (n : Nat) (a1 : Nat) (e1 : Int) (n2 a2 : Nat) (e2 : Int) (n3 a3 : Nat) (e3 : Int) (a4 : Nat) (e4 : Int) (a5 : Nat) (e5 : Int), s64 b (Form.small b 0 0 999).2.1 (Form.small b 0 0 999).2.2 = (n, a1, e1) ∧ s64 b a1 e1 = (n2, a2, e2) ∧ s64 b a2 e2 = (n3, a3, e3) ∧
    TR a3 e3 x.trades a4 e4 ∧ GR a4 e4 x.gone a5 e5 ∧ AR a5 e5 x.accounts a' e' ∧ x.errno = 0 ∧ x.number = n ∧ x.filled = Form.unfold_ n2 ∧ x.left = Form.unfold_ n3)
theorem nat_small_lt {n : Nat} (h : n ≤ 999) : Sp.i64 (n : Int) := by unfold Sp.i64; omega
theorem RdRp.ok_ {b : List UInt8} {TR : Nat → Int → List Tr → Nat → Int → Prop} {GR AR : Nat → Int → List Nat → Nat → Int → Prop} {x : Rp} {a' : Nat} {e' : Int} (h : RdRp b TR GR AR x a' e')
    (ht : ∀ {a e l a' e'}, TR a e l a' e' → (∀ t ∈ l, t.ok) ∧ l.length ≤ 4000) (hg : ∀ {a e l a' e'}, GR a e l a' e' → (∀ n ∈ l, n < 2 ^ 64) ∧ l.length ≤ 4000) (ha : ∀ {a e l a' e'}, AR a e l a' e' → (∀ n ∈ l, n < 2 ^ 32) ∧ l.length ≤ 4000) : x.ok := by
  have h9 := small_top b 0 0 999
  rcases h with ⟨h0, rfl, _⟩ | ⟨h0, n, a1, e1, n2, a2, e2, n3, a3, e3, a4, e4, a5, e5, r1, r2, r3, r4, r5, r6, x0, x1, x2, x3⟩
  · exact ⟨nat_small_lt h9, by show (0 : Nat) < 2 ^ 64; decide, (show Sp.i64 0 by unfold Sp.i64; decide), (show Sp.i64 0 by unfold Sp.i64; decide), (fun _ h => by cases h), (fun _ h => by cases h), (fun _ h => by cases h), by simp, by simp, by simp⟩
  · have b1 := s64_lt b (Form.small b 0 0 999).2.1 (Form.small b 0 0 999).2.2
    have b2 := s64_lt b a1 e1
    have b3 := s64_lt b a2 e2
    rw [r1] at b1
    rw [r2] at b2
    rw [r3] at b3
    obtain ⟨t1, t2⟩ := ht r4
    obtain ⟨g1, g2⟩ := hg r5
    obtain ⟨c1, c2⟩ := ha r6
    refine ⟨by rw [x0]; unfold Sp.i64; decide, by rw [x1]; exact b1, by rw [x2]; exact Form.unfold_bd _ b2, by rw [x3]; exact Form.unfold_bd _ b3, t1, g1, c1, by omega, by omega, by omega⟩
/-- Read well, and all of it: it is the bytes' reply. -/
theorem RdRp.yes {b : List UInt8} {TR : Nat → Int → List Tr → Nat → Int → Prop} {GR AR : Nat → Int → List Nat → Nat → Int → Prop} {x : Rp} {a' : Nat} (h : RdRp b TR GR AR x a' 0) (hd : a' = b.length)
    (ht : ∀ {a e l a'}, TR a e l a' 0 → LGood b Tr.form Tr.ok a e l a') (hg : ∀ {a e l a'}, GR a e l a' 0 → LGood b Form.nat (fun n => n < 2 ^ 64) a e l a') (ha : ∀ {a e l a'}, AR a e l a' 0 → LGood b Form.nat (fun n => n < 2 ^ 32) a e l a') : x.mayB = true ∧ x.form = b := by
  obtain ⟨k, a0, e0, hk⟩ : ∃ k a0 e0, Form.small b 0 0 999 = (k, a0, e0) := ⟨_, _, _, rfl⟩
  have h9 := small_top b 0 0 999
  unfold RdRp at h
  rw [hk] at h h9
  dsimp only at h h9
  rcases h with ⟨h0, rfl, hst⟩ | ⟨h0, n, a1, e1, n2, a2, e2, n3, a3, e3, a4, e4, a5, e5, r1, r2, r3, r4, r5, r6, x0, x1, x2, x3⟩
  · cases hst
    obtain ⟨_, g2, g3⟩ := Form.small_good hk
    rw [List.drop_zero, hd, List.drop_length, List.append_nil] at g3
    refine ⟨?_, ?_⟩
    · unfold Rp.mayB mayRB emptyB
      simp; omega
    · unfold Rp.form
      rw [if_neg (by simpa using h0)]
      simp only [Int.toNat_natCast]
      exact g3.symm
  · have g6 := ha r6
    obtain ⟨q6, p6, d6, l6, _⟩ := g6
    subst q6
    obtain ⟨q5, p5, d5, l5, _⟩ := hg r5
    subst q5
    obtain ⟨q4, p4, d4, l4, _⟩ := ht r4
    subst q4
    have g3 := (s64_of b).good a2 e2 (by rw [r3])
    rw [r3] at g3
    obtain ⟨q3, p3, d3⟩ := g3
    subst q3
    have g2 := (s64_of b).good a1 e1 (by rw [r2])
    rw [r2] at g2
    obtain ⟨q2, p2, d2⟩ := g2
    subst q2
    have g1 := (s64_of b).good a0 e0 (by rw [r1])
    rw [r1] at g1
    obtain ⟨q1, p1, d1⟩ := g1
    subst q1
    obtain ⟨_, p0, d0⟩ := Form.small_good hk
    dsimp only at *
    refine ⟨?_, ?_⟩
    · unfold Rp.mayB mayRB
      simp only [Bool.and_eq_true, Bool.or_eq_true, decide_eq_true_eq]
      exact ⟨by omega, by omega, .inl x0, l4, l5, l6⟩
    · unfold Rp.form
      rw [if_pos x0, x1, x2, x3]
      simp only [Form.fold_unfold]
      rw [List.drop_zero, d1, d2, d3, d4, d5, d6, hd, List.drop_length, h0] at d0
      rw [d0]
      unfold lstF natsT natsN
      simp only [List.append_assoc, List.append_nil]
/-- A form is read well. -/
theorem RdRp.of_form {b : List UInt8} {TR : Nat → Int → List Tr → Nat → Int → Prop} {GR AR : Nat → Int → List Nat → Nat → Int → Prop} {x y : Rp} {a' : Nat} {e' : Int} (t : List UInt8) (h : RdRp b TR GR AR x a' e') (hy : y.ok) (hm : y.mayB = true) (hb : b = y.form ++ t)
    (ht : ∀ {a l t l' a' e'}, (∀ x ∈ l, x.ok) → l.length ≤ 4000 → b.drop a = lstF Tr.form l ++ t → TR a 0 l' a' e' → l' = l ∧ a' = a + (lstF Tr.form l).length ∧ e' = 0)
    (hg : ∀ {a l t l' a' e'}, (∀ x ∈ l, x < 2 ^ 64) → l.length ≤ 4000 → b.drop a = lstF Form.nat l ++ t → GR a 0 l' a' e' → l' = l ∧ a' = a + (lstF Form.nat l).length ∧ e' = 0)
    (ha : ∀ {a l t l' a' e'}, (∀ x ∈ l, x < 2 ^ 32) → l.length ≤ 4000 → b.drop a = lstF Form.nat l ++ t → AR a 0 l' a' e' → l' = l ∧ a' = a + (lstF Form.nat l).length ∧ e' = 0) : x = y ∧ a' = y.form.length ∧ e' = 0 := by
  obtain ⟨m1, m2, m3, m4, m5⟩ := mayR_open hm
  by_cases h0 : y.errno = 0
  · have hF : y.form = Form.nat 0 ++ (Form.nat y.number ++ (Form.nat (Form.fold y.filled) ++ (Form.nat (Form.fold y.left) ++ (lstF Tr.form y.trades ++ (lstF Form.nat y.gone ++ lstF Form.nat y.accounts))))) := by
      unfold Rp.form natsT natsN lstF
      rw [if_pos h0]
      simp only [List.append_assoc]
    rw [hF] at hb
    simp only [List.append_assoc] at hb
    have d0 : b.drop 0 = _ := hb
    have hk := Form.small_at b _ 0 0 999 (by decide) (by decide) d0
    unfold RdRp at h
    rw [hk] at h
    dsimp only at h
    rcases h with ⟨hx, _⟩ | ⟨_, n, a1, e1, n2, a2, e2, n3, a3, e3, a4, e4, a5, e5, r1, r2, r3, r4, r5, r6, x0, x1, x2, x3⟩
    · exact absurd rfl hx
    · have d1 := congrArg (List.drop (Form.nat 0).length) d0
      rw [List.drop_drop, List.drop_left] at d1
      have k1 := (s64_of b).form _ _ _ hy.number d1
      rw [k1] at r1
      cases r1
      have d2 := congrArg (List.drop (Form.nat y.number).length) d1
      rw [List.drop_drop, List.drop_left] at d2
      have k2 := (s64_of b).form _ _ _ (Form.fold_lt hy.filled.1 hy.filled.2) d2
      rw [k2] at r2
      cases r2
      have d3 := congrArg (List.drop (Form.nat (Form.fold y.filled)).length) d2
      rw [List.drop_drop, List.drop_left] at d3
      have k3 := (s64_of b).form _ _ _ (Form.fold_lt hy.left.1 hy.left.2) d3
      rw [k3] at r3
      cases r3
      have d4 := congrArg (List.drop (Form.nat (Form.fold y.left)).length) d3
      rw [List.drop_drop, List.drop_left] at d4
      obtain ⟨q4, rfl, rfl⟩ := ht hy.trades m3 d4 r4
      have d5 := congrArg (List.drop (lstF Tr.form y.trades).length) d4
      rw [List.drop_drop, List.drop_left] at d5
      obtain ⟨q5, rfl, rfl⟩ := hg hy.gone m4 d5 r5
      have d6 := congrArg (List.drop (lstF Form.nat y.gone).length) d5
      rw [List.drop_drop, List.drop_left] at d6
      obtain ⟨q6, rfl, rfl⟩ := ha hy.accounts m5 d6 r6
      refine ⟨?_, ?_, rfl⟩
      · obtain ⟨f0, f1, f2, f3, f4, f5, f6⟩ := x
        obtain ⟨y0, y1, y2, y3, y4, y5, y6⟩ := y
        dsimp only at *
        rw [Form.unfold_fold] at x2 x3
        rw [x0, x1, x2, x3, q4, q5, q6, h0]
      · rw [hF]
        simp only [List.length_append]
        omega
  · have hy' := Rp.may_err hm h0
    obtain ⟨k, hk⟩ : ∃ k : Nat, y.errno = (k : Int) := ⟨y.errno.toNat, by omega⟩
    have hF : y.form = Form.nat k := by
      unfold Rp.form
      rw [if_neg h0, hk, Int.toNat_natCast]
    rw [hF] at hb
    have hs := Form.small_at b _ k 0 999 (by omega) (by decide) (by rw [List.drop_zero]; exact hb)
    unfold RdRp at h
    rw [hs] at h
    dsimp only at h
    have hk0 : k ≠ 0 := by omega
    rcases h with ⟨_, rfl, hst⟩ | ⟨hx, _⟩
    · cases hst
      rw [hF, hy', hk]
      exact ⟨rfl, by simp, rfl⟩
    · exact absurd hx hk0
end Go.Proofs.Ytoflehlkacofjaa
