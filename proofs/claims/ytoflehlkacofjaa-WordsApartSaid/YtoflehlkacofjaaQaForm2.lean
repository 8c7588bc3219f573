/- The forms once more, plain: what is read is what would be written; the document's way to read a number. -/
import Derived.Test.YtoflehlkacofjaaQaForm
namespace Go.Proofs.Ytoflehlkacofjaa.Form
theorem pow_big {k : Nat} (h : 9 < k) : 2 ^ 64 < 128 ^ k := by
  have : 128 ^ 10 ≤ 128 ^ k := Nat.pow_le_pow_right (by decide) h
  omega
/-- THERE AND BACK: a form, read. -/
theorem rd_nat : ∀ (n k acc : Nat) (t : List UInt8), n * 128 ^ k < 2 ^ 64 → (0 < k → 0 < n) → rd k acc (nat n ++ t) = (acc + n * 128 ^ k, k + (nat n).length, 0) := by
  intro n
  induction n using Nat.strongRecOn with
  | _ n ih =>
    intro k acc t h hk
    have hk9 : 9 < k → False := fun h9 => by
      have h1 := pow_big h9
      have h2 := hk (by omega)
      have h3 : 128 ^ k ≤ n * 128 ^ k := Nat.le_mul_of_pos_left _ h2
      omega
    by_cases hn : n < 128
    · rw [nat_small hn]
      simp only [List.cons_append, List.nil_append, rd_step, byte_lt n (by omega), List.length_cons, List.length_nil]
      have hA : ¬ ((k = 9 ∧ 1 < n) ∨ 9 < k) := by
        rintro (⟨rfl, h1⟩ | h1)
        · have : 2 * 128 ^ 9 ≤ n * 128 ^ 9 := Nat.mul_le_mul_right _ h1
          omega
        · exact hk9 h1
      have hB : ¬ (n = 0 ∧ 0 < k) := fun ⟨h1, h2⟩ => by have := hk h2; omega
      rw [if_neg hA, if_pos hn, if_neg hB, Nat.mod_eq_of_lt hn]
    · rw [nat_big hn]
      simp only [List.cons_append, rd_step, byte_lt (n % 128 + 128) (by omega), List.length_cons]
      have hA : ¬ ((k = 9 ∧ 1 < n % 128 + 128) ∨ 9 < k) := by
        rintro (⟨rfl, h1⟩ | h1)
        · have : 128 * 128 ^ 9 ≤ n * 128 ^ 9 := Nat.mul_le_mul_right _ (by omega)
          omega
        · exact hk9 h1
      rw [if_neg hA, if_neg (by omega), show (n % 128 + 128) % 128 = n % 128 by omega]
      have e : n = n / 128 * 128 + n % 128 := by omega
      have hp : n * 128 ^ k = n / 128 * 128 ^ (k + 1) + n % 128 * 128 ^ k := by
        conv => lhs; rw [e]
        rw [Nat.pow_succ, Nat.add_mul, Nat.mul_assoc, Nat.mul_comm 128 (128 ^ k)]
      rw [ih (n / 128) (by omega) (k + 1) _ t (by omega) (fun _ => by omega)]
      simp only [Prod.mk.injEq, and_true]
      omega

/-- The first k + 1 bytes as a number, from byte i on. -/
def val : List UInt8 → Nat
  | [] => 0
  | x :: t => x.toNat % 128 + 128 * val t
/-- A natural number as the whole one that it stands for. -/
def unfold_ (n : Nat) : Int := if n % 2 = 0 then ((n / 2 : Nat) : Int) else -((n / 2 : Nat) : Int) - 1
theorem unfold_fold (i : Int) : unfold_ (fold i) = i := by unfold unfold_ fold; split <;> split <;> omega
end Go.Proofs.Ytoflehlkacofjaa.Form
