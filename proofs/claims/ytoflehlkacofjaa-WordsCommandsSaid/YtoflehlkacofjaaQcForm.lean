/- The forms of numbers, and what holds of them: plain. -/
import Derived.Test.YtoflehlkacofjaaQcL1
namespace Go.Proofs.Ytoflehlkacofjaa.Form
def nat (n : Nat) : List UInt8 := if n < 128 then [UInt8.ofNat n] else UInt8.ofNat (n % 128 + 128) :: nat (n / 128)
termination_by n
decreasing_by omega

theorem nat_small {n : Nat} (h : n < 128) : nat n = [UInt8.ofNat n] := by rw [nat]; simp [h]
theorem nat_big {n : Nat} (h : ¬ n < 128) : nat n = UInt8.ofNat (n % 128 + 128) :: nat (n / 128) := by rw [nat]; simp [h]
theorem nat_pos (n : Nat) : 1 ≤ (nat n).length := by
  by_cases h : n < 128
  · rw [nat_small h]; simp
  · rw [nat_big h]; simp
theorem nat_len : ∀ (k n : Nat), n < 128 ^ (k + 1) → (nat n).length ≤ k + 1 := by
  intro k
  induction k with
  | zero => intro n h; rw [nat_small (by simpa using h)]; simp
  | succ k ih =>
    intro n h
    by_cases hs : n < 128
    · rw [nat_small hs]; simp
    · rw [nat_big hs]
      have := ih (n / 128) (by rw [Nat.pow_succ] at h; omega)
      simp only [List.length_cons]; omega
theorem nat_len10 {n : Nat} (h : n < 2 ^ 64) : (nat n).length ≤ 10 := nat_len 9 n (by omega)
theorem byte_lt (n : Nat) (h : n < 256) : (UInt8.ofNat n).toNat = n := by rw [UInt8.toNat_ofNat']; omega
/-- A whole number as a natural one. -/
def fold (i : Int) : Nat := if 0 ≤ i then 2 * i.toNat else 2 * (-(i + 1)).toNat + 1
theorem fold_lt {i : Int} (h1 : -9223372036854775808 ≤ i) (h2 : i ≤ 9223372036854775807) : fold i < 2 ^ 64 := by unfold fold; split <;> omega
/-- How far it is from 0. -/
def far (i : Int) : Nat := if 0 ≤ i then i.toNat else (-(i + 1)).toNat
/-- A number read out of bytes, k bytes behind its beginning: the number, how many bytes it has, the fault. -/
def rd : Nat → Nat → List UInt8 → Nat × Nat × Nat
  | _, _, [] => (0, 0, 4)
  | k, acc, x :: t =>
    if (k = 9 ∧ 1 < x.toNat) ∨ 9 < k then (0, 0, 5)
    else if x.toNat < 128 then (if x.toNat = 0 ∧ 0 < k then (0, 0, 5) else (acc + x.toNat % 128 * 128 ^ k, k + 1, 0))
    else rd (k + 1) (acc + x.toNat % 128 * 128 ^ k) t
theorem rd_step (k acc : Nat) (x : UInt8) (t : List UInt8) : rd k acc (x :: t) = if (k = 9 ∧ 1 < x.toNat) ∨ 9 < k then (0, 0, 5)
    else if x.toNat < 128 then (if x.toNat = 0 ∧ 0 < k then (0, 0, 5) else (acc + x.toNat % 128 * 128 ^ k, k + 1, 0))
    else rd (k + 1) (acc + x.toNat % 128 * 128 ^ k) t := rfl

/-- What a reader at place a, with fault e, answers to Small: the number, the place behind it, the fault. -/
def small (b : List UInt8) (a : Nat) (e : Int) (most : Nat) : Nat × Nat × Int :=
  if e ≠ 0 then (0, a, e)
  else
    let r := rd 0 0 (b.drop a)
    if r.2.2 = 0 then (if most < r.1 then (0, a, 5) else (r.1, a + r.2.1, 0)) else (0, a, (r.2.2 : Nat))
/-- What Done tells of a reader of n bytes. -/
def done (n a : Nat) (e : Int) : Int := if e = 0 ∧ a < n then 5 else e
end Go.Proofs.Ytoflehlkacofjaa.Form
