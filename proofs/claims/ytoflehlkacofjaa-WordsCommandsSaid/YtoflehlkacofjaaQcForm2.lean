/- The forms once more, plain: what is read is what would be written; the document's way to read a number. -/
import Derived.Test.YtoflehlkacofjaaQcForm
namespace Go.Proofs.Ytoflehlkacofjaa.Form
theorem pow128 (k : Nat) : 128 ^ k = 2 ^ (7 * k) := by rw [Nat.pow_mul]
theorem pow_big {k : Nat} (h : 9 < k) : 2 ^ 64 < 128 ^ k := by
  have : 128 ^ 10 ≤ 128 ^ k := Nat.pow_le_pow_right (by decide) h
  omega
theorem pow_small {k : Nat} (h : k ≤ 9) : 128 ^ k ≤ 128 ^ 9 := Nat.pow_le_pow_right (by decide) h

/-- THERE AND BACK: a form, read. -/
theorem rd_nat : ∀ (n k acc : Nat) (t : List UInt8), n * 128 ^ k < 2 ^ 64 → (0 < k → 0 < n) → rd k acc (nat n ++ t) = (acc + n * 128 ^ k, k + (nat n).length, 0) := by
  intro n
  induction n using Nat.strongRecOn with
  | _ n ih =>
    intro k acc t h hk
    have hk9 : 9 < k → False := fun h9 => by
      have h1 := pow_big h9
      have h2 := hk (by omega)
      have h3 : 128 ^ k ≤ n * 128 ^ k := Nat.le_mul_of_pos_left _ h2
      omega
    by_cases hn : n < 128
    · rw [nat_small hn]
      simp only [List.cons_append, List.nil_append, rd_step, byte_lt n (by omega), List.length_cons, List.length_nil]
      have hA : ¬ ((k = 9 ∧ 1 < n) ∨ 9 < k) := by
        rintro (⟨rfl, h1⟩ | h1)
        · have : 2 * 128 ^ 9 ≤ n * 128 ^ 9 := Nat.mul_le_mul_right _ h1
          omega
        · exact hk9 h1
      have hB : ¬ (n = 0 ∧ 0 < k) := fun ⟨h1, h2⟩ => by have := hk h2; omega
      rw [if_neg hA, if_pos hn, if_neg hB, Nat.mod_eq_of_lt hn]
    · rw [nat_big hn]
      simp only [List.cons_append, rd_step, byte_lt (n % 128 + 128) (by omega), List.length_cons]
      have hA : ¬ ((k = 9 ∧ 1 < n % 128 + 128) ∨ 9 < k) := by
        rintro (⟨rfl, h1⟩ | h1)
        · have : 128 * 128 ^ 9 ≤ n * 128 ^ 9 := Nat.mul_le_mul_right _ (by omega)
          omega
        · exact hk9 h1
      rw [if_neg hA, if_neg (by omega), show (n % 128 + 128) % 128 = n % 128 by omega]
      have e : n = n / 128 * 128 + n % 128 := by omega
      have hp : n * 128 ^ k = n / 128 * 128 ^ (k + 1) + n % 128 * 128 ^ k := by
        conv => lhs; rw [e]
        rw [Nat.pow_succ, Nat.add_mul, Nat.mul_assoc, Nat.mul_comm 128 (128 ^ k)]
      rw [ih (n / 128) (by omega) (k + 1) _ t (by omega) (fun _ => by omega)]
      simp only [Prod.mk.injEq, and_true]
      omega

/-- ONE FORM: what is read is what would be written. -/
theorem rd_form : ∀ (l : List UInt8) (k acc v c : Nat), rd k acc l = (v, c, 0) → ∃ n, v = acc + n * 128 ^ k ∧ c = k + (nat n).length ∧ (∃ t, l = nat n ++ t) ∧ n * 128 ^ k < 2 ^ 64 ∧ (0 < k → 0 < n) := by
  intro l
  induction l with
  | nil => intro k acc v c h; simp [rd] at h
  | cons x t ih =>
    intro k acc v c h
    rw [rd_step] at h
    split at h
    · simp at h
    · rename_i hA
      have hk : k ≤ 9 := by omega
      have hx256 : x.toNat < 256 := x.toNat_lt
      have hpow := pow_small hk
      split at h
      · rename_i hx
        split at h
        · simp at h
        · rename_i hB
          simp only [Prod.mk.injEq, and_true] at h
          obtain ⟨rfl, rfl⟩ := h
          refine ⟨x.toNat, by rw [Nat.mod_eq_of_lt hx], by rw [nat_small hx]; rfl, ⟨t, by rw [nat_small hx, UInt8.ofNat_toNat]; rfl⟩, ?_, fun h0 => by omega⟩
          by_cases h9 : k = 9
          · subst h9
            have : x.toNat * 128 ^ 9 ≤ 1 * 128 ^ 9 := Nat.mul_le_mul_right _ (by omega)
            omega
          · have h1 : x.toNat * 128 ^ k ≤ 127 * 128 ^ k := Nat.mul_le_mul_right _ (by omega)
            have h2 : 128 ^ k ≤ 128 ^ 8 := Nat.pow_le_pow_right (by decide) (by omega)
            omega
      · rename_i hx
        obtain ⟨n, h1, h2, ⟨t', h3⟩, h4, h5⟩ := ih _ _ _ _ h
        have hn := h5 (by omega)
        have hp : (n * 128 + x.toNat % 128) * 128 ^ k = n * 128 ^ (k + 1) + x.toNat % 128 * 128 ^ k := by
          rw [Nat.pow_succ, Nat.add_mul, Nat.mul_assoc, Nat.mul_comm 128 (128 ^ k)]
        have hnat : nat (n * 128 + x.toNat % 128) = x :: nat n := by
          rw [nat_big (by omega), show (n * 128 + x.toNat % 128) % 128 + 128 = x.toNat by omega, show (n * 128 + x.toNat % 128) / 128 = n by omega, UInt8.ofNat_toNat]
        refine ⟨n * 128 + x.toNat % 128, by rw [hp]; omega, by rw [hnat, List.length_cons]; omega, ⟨t', by rw [hnat, h3]; rfl⟩, ?_, fun _ => by omega⟩
        rw [hp]
        have h6 : x.toNat % 128 * 128 ^ k < 128 * 128 ^ k := Nat.mul_lt_mul_of_pos_right (by omega) (Nat.pow_pos (by decide))
        have h7 : k ≤ 8 := by
          rcases Nat.lt_or_ge 8 k with h9 | h9
          · exfalso
            have hb := pow_big (k := k + 1) (by omega)
            have := Nat.le_mul_of_pos_left (128 ^ (k + 1)) hn
            omega
          · exact h9
        have e1 : 2 ^ 64 = 2 ^ (64 - 7 * (k + 1)) * 128 ^ (k + 1) := by rw [pow128, ← Nat.pow_add]; congr 1; omega
        rw [e1] at h4 ⊢
        have h10 : n < 2 ^ (64 - 7 * (k + 1)) := Nat.lt_of_mul_lt_mul_right h4
        have h11 : (n + 1) * 128 ^ (k + 1) ≤ 2 ^ (64 - 7 * (k + 1)) * 128 ^ (k + 1) := Nat.mul_le_mul_right _ h10
        rw [Nat.add_mul, Nat.one_mul] at h11
        have h12 : 128 ^ (k + 1) = 128 * 128 ^ k := by rw [Nat.pow_succ, Nat.mul_comm]
        omega

/-- The first k + 1 bytes as a number, from byte i on. -/
def val : List UInt8 → Nat
  | [] => 0
  | x :: t => x.toNat % 128 + 128 * val t
/-- What Flag answers. -/
def flg (b : List UInt8) (a : Nat) (e : Int) : Bool × Nat × Int :=
  if e ≠ 0 then (false, a, e)
  else match b[a]? with
    | none => (false, a, 4)
    | some x => if 1 < x.toNat then (false, a, 5) else (decide (x.toNat = 1), a + 1, 0)
/-- A natural number as the whole one that it stands for. -/
def unfold_ (n : Nat) : Int := if n % 2 = 0 then ((n / 2 : Nat) : Int) else -((n / 2 : Nat) : Int) - 1
theorem unfold_fold (i : Int) : unfold_ (fold i) = i := by unfold unfold_ fold; split <;> split <;> omega
end Go.Proofs.Ytoflehlkacofjaa.Form
