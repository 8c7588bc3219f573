/- The forms once more, plain: what is read is what would be written; the document's way to read a number. -/
import Derived.Test.YtpbdnndpdidagaaForm
namespace Go.Proofs.Ytpbdnndpdidagaa.Form

theorem pow128 (k : Nat) : 128 ^ k = 2 ^ (7 * k) := by rw [Nat.pow_mul]
theorem pow_big {k : Nat} (h : 9 < k) : 2 ^ 64 < 128 ^ k := by
  have : 128 ^ 10 ≤ 128 ^ k := Nat.pow_le_pow_right (by decide) h
  omega
theorem pow_small {k : Nat} (h : k ≤ 9) : 128 ^ k ≤ 128 ^ 9 := Nat.pow_le_pow_right (by decide) h

/-- THERE AND BACK: a form, read. -/
theorem rd_nat : ∀ (n k acc : Nat) (t : List UInt8), n * 128 ^ k < 2 ^ 64 → (0 < k → 0 < n) → rd k acc (nat n ++ t) = (acc + n * 128 ^ k, k + (nat n).length, 0) := by
  intro n
  induction n using Nat.strongRecOn with
  | _ n ih =>
    intro k acc t h hk
    have hk9 : 9 < k → False := fun h9 => by
      have h1 := pow_big h9
      have h2 := hk (by omega)
      have h3 : 128 ^ k ≤ n * 128 ^ k := Nat.le_mul_of_pos_left _ h2
      omega
    by_cases hn : n < 128
    · rw [nat_small hn]
      simp only [List.cons_append, List.nil_append, rd_step, byte_lt n (by omega), List.length_cons, List.length_nil]
      have hA : ¬ ((k = 9 ∧ 1 < n) ∨ 9 < k) := by
        rintro (⟨rfl, h1⟩ | h1)
        · have : 2 * 128 ^ 9 ≤ n * 128 ^ 9 := Nat.mul_le_mul_right _ h1
          omega
        · exact hk9 h1
      have hB : ¬ (n = 0 ∧ 0 < k) := fun ⟨h1, h2⟩ => by have := hk h2; omega
      rw [if_neg hA, if_pos hn, if_neg hB, Nat.mod_eq_of_lt hn]
    · rw [nat_big hn]
      simp only [List.cons_append, rd_step, byte_lt (n % 128 + 128) (by omega), List.length_cons]
      have hA : ¬ ((k = 9 ∧ 1 < n % 128 + 128) ∨ 9 < k) := by
        rintro (⟨rfl, h1⟩ | h1)
        · have : 128 * 128 ^ 9 ≤ n * 128 ^ 9 := Nat.mul_le_mul_right _ (by omega)
          omega
        · exact hk9 h1
      rw [if_neg hA, if_neg (by omega), show (n % 128 + 128) % 128 = n % 128 by omega]
      have e : n = n / 128 * 128 + n % 128 := by omega
      have hp : n * 128 ^ k = n / 128 * 128 ^ (k + 1) + n % 128 * 128 ^ k := by
        conv => lhs; rw [e]
        rw [Nat.pow_succ, Nat.add_mul, Nat.mul_assoc, Nat.mul_comm 128 (128 ^ k)]
      rw [ih (n / 128) (by omega) (k + 1) _ t (by omega) (fun _ => by omega)]
      simp only [Prod.mk.injEq, and_true]
      omega

/-- ONE FORM: what is read is what would be written. -/
theorem rd_form : ∀ (l : List UInt8) (k acc v c : Nat), rd k acc l = (v, c, 0) → ∃ n, v = acc + n * 128 ^ k ∧ c = k + (nat n).length ∧ (∃ t, l = nat n ++ t) ∧ n * 128 ^ k < 2 ^ 64 ∧ (0 < k → 0 < n) := by
  intro l
  induction l with
  | nil => intro k acc v c h; simp [rd] at h
  | cons x t ih =>
    intro k acc v c h
    rw [rd_step] at h
    split at h
    · simp at h
    · rename_i hA
      have hk : k ≤ 9 := by omega
      have hx256 : x.toNat < 256 := x.toNat_lt
      have hpow := pow_small hk
      split at h
      · rename_i hx
        split at h
        · simp at h
        · rename_i hB
          simp only [Prod.mk.injEq, and_true] at h
          obtain ⟨rfl, rfl⟩ := h
          refine ⟨x.toNat, by rw [Nat.mod_eq_of_lt hx], by rw [nat_small hx]; rfl, ⟨t, by rw [nat_small hx, UInt8.ofNat_toNat]; rfl⟩, ?_, fun h0 => by omega⟩
          by_cases h9 : k = 9
          · subst h9
            have : x.toNat * 128 ^ 9 ≤ 1 * 128 ^ 9 := Nat.mul_le_mul_right _ (by omega)
            omega
          · have h1 : x.toNat * 128 ^ k ≤ 127 * 128 ^ k := Nat.mul_le_mul_right _ (by omega)
            have h2 : 128 ^ k ≤ 128 ^ 8 := Nat.pow_le_pow_right (by decide) (by omega)
            omega
      · rename_i hx
        obtain ⟨n, h1, h2, ⟨t', h3⟩, h4, h5⟩ := ih _ _ _ _ h
        have hn := h5 (by omega)
        have hp : (n * 128 + x.toNat % 128) * 128 ^ k = n * 128 ^ (k + 1) + x.toNat % 128 * 128 ^ k := by
          rw [Nat.pow_succ, Nat.add_mul, Nat.mul_assoc, Nat.mul_comm 128 (128 ^ k)]
        have hnat : nat (n * 128 + x.toNat % 128) = x :: nat n := by
          rw [nat_big (by omega), show (n * 128 + x.toNat % 128) % 128 + 128 = x.toNat by omega, show (n * 128 + x.toNat % 128) / 128 = n by omega, UInt8.ofNat_toNat]
        refine ⟨n * 128 + x.toNat % 128, by rw [hp]; omega, by rw [hnat, List.length_cons]; omega, ⟨t', by rw [hnat, h3]; rfl⟩, ?_, fun _ => by omega⟩
        rw [hp]
        have h6 : x.toNat % 128 * 128 ^ k < 128 * 128 ^ k := Nat.mul_lt_mul_of_pos_right (by omega) (Nat.pow_pos (by decide))
        have h7 : k ≤ 8 := by
          rcases Nat.lt_or_ge 8 k with h9 | h9
          · exfalso
            have hb := pow_big (k := k + 1) (by omega)
            have := Nat.le_mul_of_pos_left (128 ^ (k + 1)) hn
            omega
          · exact h9
        have e1 : 2 ^ 64 = 2 ^ (64 - 7 * (k + 1)) * 128 ^ (k + 1) := by rw [pow128, ← Nat.pow_add]; congr 1; omega
        rw [e1] at h4 ⊢
        have h10 : n < 2 ^ (64 - 7 * (k + 1)) := Nat.lt_of_mul_lt_mul_right h4
        have h11 : (n + 1) * 128 ^ (k + 1) ≤ 2 ^ (64 - 7 * (k + 1)) * 128 ^ (k + 1) := Nat.mul_le_mul_right _ h10
        rw [Nat.add_mul, Nat.one_mul] at h11
        have h12 : 128 ^ (k + 1) = 128 * 128 ^ k := by rw [Nat.pow_succ, Nat.mul_comm]
        omega

/-- How many bytes that go on. -/
def lead : List UInt8 → Nat
  | [] => 0
  | x :: t => if 128 ≤ x.toNat then lead t + 1 else 0
theorem lead_le (l : List UInt8) : lead l ≤ l.length := by
  induction l with
  | nil => exact Nat.le_refl _
  | cons x t ih => unfold lead; split <;> simp <;> omega
/-- The first k + 1 bytes as a number, from byte i on. -/
def val : List UInt8 → Nat
  | [] => 0
  | x :: t => x.toNat % 128 + 128 * val t
/-- The document's way. -/
def rdR (l : List UInt8) : Nat × Nat × Nat :=
  let k := lead l
  if l.length ≤ k then (if 10 ≤ k then (0, 0, 5) else (0, 0, 4))
  else if 9 < k ∨ (k = 9 ∧ 1 < (l.getD 9 0).toNat) ∨ (0 < k ∧ (l.getD k 0).toNat = 0) then (0, 0, 5)
  else (val (l.take (k + 1)), k + 1, 0)
theorem rd_lead : ∀ (l : List UInt8) (k acc : Nat), k ≤ 10 → rd k acc l =
    if l.length ≤ lead l then (if 10 ≤ k + lead l ∧ (k < 10 ∨ l ≠ []) then (0, 0, 5) else (0, 0, 4))
    else if 9 < k + lead l ∨ (k + lead l = 9 ∧ 1 < (l.getD (lead l) 0).toNat) ∨ (0 < k + lead l ∧ (l.getD (lead l) 0).toNat = 0) then (0, 0, 5)
    else (acc + val (l.take (lead l + 1)) * 128 ^ k, k + lead l + 1, 0) := by
  intro l
  induction l with
  | nil => intro k acc hk; simp [rd, lead]
  | cons x t ih =>
    intro k acc hk
    rw [rd_step]
    have hx256 : x.toNat < 256 := x.toNat_lt
    by_cases hx : 128 ≤ x.toNat
    · have hl : lead (x :: t) = lead t + 1 := by show (if 128 ≤ x.toNat then lead t + 1 else 0) = _; rw [if_pos hx]
      rw [hl]
      have hlt := lead_le t
      by_cases hA : k = 9 ∨ 9 < k
      · rw [if_pos (by omega)]
        by_cases hB : (x :: t).length ≤ lead t + 1
        · rw [if_pos hB, if_pos ⟨by omega, .inr (by simp)⟩]
        · rw [if_neg hB, if_pos (by omega)]
      · rw [if_neg (by omega), if_neg (by omega), ih (k + 1) _ (by omega)]
        simp only [List.length_cons, Nat.add_le_add_iff_right, List.getD_cons_succ, List.take_succ_cons, val, Nat.pow_succ]
        have e1 : k + 1 + lead t = k + (lead t + 1) := by omega
        rw [e1]
        by_cases hB : t.length ≤ lead t
        · rw [if_pos hB, if_pos hB]
          by_cases hC : 10 ≤ k + (lead t + 1)
          · have hne : k + 1 < 10 ∨ t ≠ [] := by
              by_cases h : k + 1 < 10
              · exact .inl h
              · exact .inr (by rintro rfl; simp [lead] at hC; omega)
            rw [if_pos ⟨hC, hne⟩, if_pos ⟨hC, .inr (by simp)⟩]
          · rw [if_neg (fun h => hC h.1), if_neg (fun h => hC h.1)]
        · rw [if_neg hB, if_neg hB]
          split
          · rfl
          · simp only [Prod.mk.injEq, and_true]
            have e2 : 128 * val (List.take (lead t + 1) t) * 128 ^ k = val (List.take (lead t + 1) t) * (128 ^ k * 128) := by
              rw [Nat.mul_comm 128 (val _), Nat.mul_assoc, Nat.mul_comm 128]
            rw [Nat.add_mul, e2]; omega
    · have hl : lead (x :: t) = 0 := by show (if 128 ≤ x.toNat then lead t + 1 else 0) = _; rw [if_neg hx]
      rw [hl]
      simp only [List.length_cons, List.getD_cons_zero, Nat.add_zero, List.take_succ_cons, List.take_zero, val, Nat.mul_zero]
      rw [if_neg (show ¬ t.length + 1 ≤ 0 by omega)]
      by_cases hA : (k = 9 ∧ 1 < x.toNat) ∨ 9 < k
      · rw [if_pos hA, if_pos (by omega)]
      · rw [if_neg hA, if_pos (by omega)]
        by_cases hB : x.toNat = 0 ∧ 0 < k
        · rw [if_pos hB, if_pos (by omega)]
        · rw [if_neg hB, if_neg (by omega)]
theorem lead_big : ∀ (l : List UInt8) (j : Nat), j < lead l → 128 ≤ (l.getD j 0).toNat := by
  intro l
  induction l with
  | nil => intro j h; exact absurd h (Nat.not_lt_zero _)
  | cons x t ih =>
    intro j h
    by_cases hx : 128 ≤ x.toNat
    · have hl : lead (x :: t) = lead t + 1 := by show (if 128 ≤ x.toNat then lead t + 1 else 0) = _; rw [if_pos hx]
      cases j with
      | zero => exact hx
      | succ j => rw [List.getD_cons_succ]; exact ih j (by omega)
    · have hl : lead (x :: t) = 0 := by show (if 128 ≤ x.toNat then lead t + 1 else 0) = _; rw [if_neg hx]
      omega
theorem lead_end : ∀ (l : List UInt8), lead l < l.length → (l.getD (lead l) 0).toNat < 128 := by
  intro l
  induction l with
  | nil => intro h; exact absurd h (Nat.not_lt_zero _)
  | cons x t ih =>
    intro h
    by_cases hx : 128 ≤ x.toNat
    · have hl : lead (x :: t) = lead t + 1 := by show (if 128 ≤ x.toNat then lead t + 1 else 0) = _; rw [if_pos hx]
      rw [hl] at h ⊢
      rw [List.getD_cons_succ]; exact ih (by simpa using h)
    · have hl : lead (x :: t) = 0 := by show (if 128 ≤ x.toNat then lead t + 1 else 0) = _; rw [if_neg hx]
      rw [hl, List.getD_cons_zero]; omega
theorem val_step (l : List UInt8) (m : Nat) (h : m < l.length) : val (l.drop m) = (l.getD m 0).toNat % 128 + 128 * val (l.drop (m + 1)) := by
  rw [List.drop_eq_getElem_cons h, getD_of_lt _ _ _ h]; rfl
theorem val_le (l : List UInt8) : ∀ m, val (l.drop m) ≤ val l := by
  intro m
  induction m with
  | zero => exact Nat.le_refl _
  | succ m ih =>
    by_cases h : m < l.length
    · have := val_step l m h; omega
    · rw [List.drop_of_length_le (by omega)] at ih ⊢; exact ih
theorem rdR_eq (l : List UInt8) : rdR l = rd 0 0 l := by
  rw [rd_lead l 0 0 (by omega)]
  unfold rdR
  simp only [Nat.zero_add, Nat.pow_zero, Nat.mul_one]
  by_cases h : l.length ≤ lead l
  · rw [if_pos h, if_pos h]
    by_cases h2 : 10 ≤ lead l
    · rw [if_pos h2, if_pos ⟨h2, .inl (by omega)⟩]
    · rw [if_neg h2, if_neg (fun h => h2 h.1)]
  · rw [if_neg h, if_neg h]
    by_cases h9 : lead l = 9
    · rw [h9]
    · congr 1
      apply propext
      constructor <;> omega

/-- Where the document's way gives a number it is one of 64 bits. -/
theorem val_lt (l : List UInt8) (h : rdR l = (val (l.take (lead l + 1)), lead l + 1, 0)) : val (l.take (lead l + 1)) < 2 ^ 64 := by
  rw [rdR_eq] at h
  obtain ⟨n, h1, _, _, h4, _⟩ := rd_form _ _ _ _ _ h
  rw [Nat.pow_zero, Nat.mul_one] at h1 h4
  omega

/-- What Text answers: the text, the place behind it, the fault. -/
def txt (b : List UInt8) (a : Nat) (e : Int) (most : Int) : List UInt8 × Nat × Int :=
  if e ≠ 0 then ([], a, e)
  else
    let r := rd 0 0 (b.drop a)
    if r.2.2 ≠ 0 then ([], a, (r.2.2 : Nat))
    else if most.toNat < r.1 then ([], a, 3)
    else if b.length - (a + r.2.1) < r.1 then ([], a, 4)
    else ((b.drop (a + r.2.1)).take r.1, a + r.2.1 + r.1, 0)
/-- What Flag answers. -/
def flg (b : List UInt8) (a : Nat) (e : Int) : Bool × Nat × Int :=
  if e ≠ 0 then (false, a, e)
  else match b[a]? with
    | none => (false, a, 4)
    | some x => if 1 < x.toNat then (false, a, 5) else (decide (x.toNat = 1), a + 1, 0)
/-- A natural number as the whole one that it stands for. -/
def unfold_ (n : Nat) : Int := if n % 2 = 0 then ((n / 2 : Nat) : Int) else -((n / 2 : Nat) : Int) - 1
theorem unfold_fold (i : Int) : unfold_ (fold i) = i := by unfold unfold_ fold; split <;> split <;> omega
theorem fold_unfold (n : Nat) : fold (unfold_ n) = n := by unfold unfold_ fold; split <;> split <;> omega
end Go.Proofs.Ytpbdnndpdidagaa.Form
