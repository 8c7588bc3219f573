/- K1: Form, Form2, W1, W2, W3, W4, W5, W7, W8, W9, W10, W12. -/
import Derived.Test.YtoflehlkacofjaaQfL1
import Derived.Test.YtoflehlkacofjaaRows
import Derived.Below
import Derived.Lib.Hide
import Derived.OpenShut
import Derived.ProofKit
import Derived.WalkKit
import Derived.BigQuiet
import Derived.Deep.QuietTactic
import Derived.Lib.BufferOwn
import Derived.Maps.AppendAt
import Derived.WalkSmall
/- The forms of numbers, and what holds of them: plain. -/
namespace Go.Proofs.Ytoflehlkacofjaa.Form
def nat (n : Nat) : List UInt8 := if n < 128 then [UInt8.ofNat n] else UInt8.ofNat (n % 128 + 128) :: nat (n / 128)
termination_by n
decreasing_by omega

theorem nat_small {n : Nat} (h : n < 128) : nat n = [UInt8.ofNat n] := by rw [nat]; simp [h]
theorem nat_big {n : Nat} (h : ¬ n < 128) : nat n = UInt8.ofNat (n % 128 + 128) :: nat (n / 128) := by rw [nat]; simp [h]
theorem nat_pos (n : Nat) : 1 ≤ (nat n).length := by
  by_cases h : n < 128
  · rw [nat_small h]; simp
  · rw [nat_big h]; simp
theorem nat_len : ∀ (k n : Nat), n < 128 ^ (k + 1) → (nat n).length ≤ k + 1 := by
  intro k
  induction k with
  | zero => intro n h; rw [nat_small (by simpa using h)]; simp
  | succ k ih =>
    intro n h
    by_cases hs : n < 128
    · rw [nat_small hs]; simp
    · rw [nat_big hs]
      have := ih (n / 128) (by rw [Nat.pow_succ] at h; omega)
      simp only [List.length_cons]; omega
theorem nat_len10 {n : Nat} (h : n < 2 ^ 64) : (nat n).length ≤ 10 := nat_len 9 n (by omega)
theorem byte_lt (n : Nat) (h : n < 256) : (UInt8.ofNat n).toNat = n := by rw [UInt8.toNat_ofNat']; omega
/-- Of two numbers whose forms begin each other. -/
theorem nat_begins : ∀ (n m : Nat) (x y : List UInt8), nat m ++ x = nat n ++ y → m = n ∧ x = y := by
  intro n
  induction n using Nat.strongRecOn with
  | _ n ih =>
    intro m x y h
    by_cases hm : m < 128
    · rw [nat_small hm] at h
      by_cases hn : n < 128
      · rw [nat_small hn] at h
        simp only [List.cons_append, List.nil_append, List.cons.injEq] at h
        have := congrArg UInt8.toNat h.1
        rw [byte_lt _ (by omega), byte_lt _ (by omega)] at this
        exact ⟨this, h.2⟩
      · rw [nat_big hn] at h
        simp only [List.cons_append, List.cons.injEq] at h
        have := congrArg UInt8.toNat h.1
        rw [byte_lt _ (by omega), byte_lt _ (by omega)] at this
        omega
    · rw [nat_big hm] at h
      by_cases hn : n < 128
      · rw [nat_small hn] at h
        simp only [List.cons_append, List.cons.injEq] at h
        have := congrArg UInt8.toNat h.1
        rw [byte_lt _ (by omega), byte_lt _ (by omega)] at this
        omega
      · rw [nat_big hn] at h
        simp only [List.cons_append, List.cons.injEq] at h
        have h1 := congrArg UInt8.toNat h.1
        rw [byte_lt _ (by omega), byte_lt _ (by omega)] at h1
        obtain ⟨h2, h3⟩ := ih (n / 128) (by omega) (m / 128) x y h.2
        exact ⟨by omega, h3⟩
/-- A whole number as a natural one. -/
def fold (i : Int) : Nat := if 0 ≤ i then 2 * i.toNat else 2 * (-(i + 1)).toNat + 1
theorem fold_lt {i : Int} (h1 : -9223372036854775808 ≤ i) (h2 : i ≤ 9223372036854775807) : fold i < 2 ^ 64 := by unfold fold; split <;> omega
theorem fold_inj {i j : Int} (h : fold i = fold j) : i = j := by unfold fold at h; split at h <;> split at h <;> omega
/-- How far it is from 0. -/
def far (i : Int) : Nat := if 0 ≤ i then i.toNat else (-(i + 1)).toNat
/-- A number read out of bytes, k bytes behind its beginning: the number, how many bytes it has, the fault. -/
def rd : Nat → Nat → List UInt8 → Nat × Nat × Nat
  | _, _, [] => (0, 0, 4)
  | k, acc, x :: t =>
    if (k = 9 ∧ 1 < x.toNat) ∨ 9 < k then (0, 0, 5)
    else if x.toNat < 128 then (if x.toNat = 0 ∧ 0 < k then (0, 0, 5) else (acc + x.toNat % 128 * 128 ^ k, k + 1, 0))
    else rd (k + 1) (acc + x.toNat % 128 * 128 ^ k) t
theorem rd_step (k acc : Nat) (x : UInt8) (t : List UInt8) : rd k acc (x :: t) = if (k = 9 ∧ 1 < x.toNat) ∨ 9 < k then (0, 0, 5)
    else if x.toNat < 128 then (if x.toNat = 0 ∧ 0 < k then (0, 0, 5) else (acc + x.toNat % 128 * 128 ^ k, k + 1, 0))
    else rd (k + 1) (acc + x.toNat % 128 * 128 ^ k) t := rfl

/-- What a reader at place a, with fault e, answers to Small: the number, the place behind it, the fault. -/
def small (b : List UInt8) (a : Nat) (e : Int) (most : Nat) : Nat × Nat × Int :=
  if e ≠ 0 then (0, a, e)
  else
    let r := rd 0 0 (b.drop a)
    if r.2.2 = 0 then (if most < r.1 then (0, a, 5) else (r.1, a + r.2.1, 0)) else (0, a, (r.2.2 : Nat))
/-- What Done tells of a reader of n bytes. -/
def done (n a : Nat) (e : Int) : Int := if e = 0 ∧ a < n then 5 else e
end Go.Proofs.Ytoflehlkacofjaa.Form
/- The forms once more, plain: what is read is what would be written; the document's way to read a number. -/
namespace Go.Proofs.Ytoflehlkacofjaa.Form
theorem pow128 (k : Nat) : 128 ^ k = 2 ^ (7 * k) := by rw [Nat.pow_mul]
theorem pow_big {k : Nat} (h : 9 < k) : 2 ^ 64 < 128 ^ k := by
  have : 128 ^ 10 ≤ 128 ^ k := Nat.pow_le_pow_right (by decide) h
  omega
theorem pow_small {k : Nat} (h : k ≤ 9) : 128 ^ k ≤ 128 ^ 9 := Nat.pow_le_pow_right (by decide) h

/-- THERE AND BACK: a form, read. -/
theorem rd_nat : ∀ (n k acc : Nat) (t : List UInt8), n * 128 ^ k < 2 ^ 64 → (0 < k → 0 < n) → rd k acc (nat n ++ t) = (acc + n * 128 ^ k, k + (nat n).length, 0) := by
  intro n
  induction n using Nat.strongRecOn with
  | _ n ih =>
    intro k acc t h hk
    have hk9 : 9 < k → False := fun h9 => by
      have h1 := pow_big h9
      have h2 := hk (by omega)
      have h3 : 128 ^ k ≤ n * 128 ^ k := Nat.le_mul_of_pos_left _ h2
      omega
    by_cases hn : n < 128
    · rw [nat_small hn]
      simp only [List.cons_append, List.nil_append, rd_step, byte_lt n (by omega), List.length_cons, List.length_nil]
      have hA : ¬ ((k = 9 ∧ 1 < n) ∨ 9 < k) := by
        rintro (⟨rfl, h1⟩ | h1)
        · have : 2 * 128 ^ 9 ≤ n * 128 ^ 9 := Nat.mul_le_mul_right _ h1
          omega
        · exact hk9 h1
      have hB : ¬ (n = 0 ∧ 0 < k) := fun ⟨h1, h2⟩ => by have := hk h2; omega
      rw [if_neg hA, if_pos hn, if_neg hB, Nat.mod_eq_of_lt hn]
    · rw [nat_big hn]
      simp only [List.cons_append, rd_step, byte_lt (n % 128 + 128) (by omega), List.length_cons]
      have hA : ¬ ((k = 9 ∧ 1 < n % 128 + 128) ∨ 9 < k) := by
        rintro (⟨rfl, h1⟩ | h1)
        · have : 128 * 128 ^ 9 ≤ n * 128 ^ 9 := Nat.mul_le_mul_right _ (by omega)
          omega
        · exact hk9 h1
      rw [if_neg hA, if_neg (by omega), show (n % 128 + 128) % 128 = n % 128 by omega]
      have e : n = n / 128 * 128 + n % 128 := by omega
      have hp : n * 128 ^ k = n / 128 * 128 ^ (k + 1) + n % 128 * 128 ^ k := by
        conv => lhs; rw [e]
        rw [Nat.pow_succ, Nat.add_mul, Nat.mul_assoc, Nat.mul_comm 128 (128 ^ k)]
      rw [ih (n / 128) (by omega) (k + 1) _ t (by omega) (fun _ => by omega)]
      simp only [Prod.mk.injEq, and_true]
      omega

/-- ONE FORM: what is read is what would be written. -/
theorem rd_form : ∀ (l : List UInt8) (k acc v c : Nat), rd k acc l = (v, c, 0) → ∃ n, v = acc + n * 128 ^ k ∧ c = k + (nat n).length ∧ (∃ t, l = nat n ++ t) ∧ n * 128 ^ k < 2 ^ 64 ∧ (0 < k → 0 < n) := by
  intro l
  induction l with
  | nil => intro k acc v c h; simp [rd] at h
  | cons x t ih =>
    intro k acc v c h
    rw [rd_step] at h
    split at h
    · simp at h
    · rename_i hA
      have hk : k ≤ 9 := by omega
      have hx256 : x.toNat < 256 := x.toNat_lt
      have hpow := pow_small hk
      split at h
      · rename_i hx
        split at h
        · simp at h
        · rename_i hB
          simp only [Prod.mk.injEq, and_true] at h
          obtain ⟨rfl, rfl⟩ := h
          refine ⟨x.toNat, by rw [Nat.mod_eq_of_lt hx], by rw [nat_small hx]; rfl, ⟨t, by rw [nat_small hx, UInt8.ofNat_toNat]; rfl⟩, ?_, fun h0 => by omega⟩
          by_cases h9 : k = 9
          · subst h9
            have : x.toNat * 128 ^ 9 ≤ 1 * 128 ^ 9 := Nat.mul_le_mul_right _ (by omega)
            omega
          · have h1 : x.toNat * 128 ^ k ≤ 127 * 128 ^ k := Nat.mul_le_mul_right _ (by omega)
            have h2 : 128 ^ k ≤ 128 ^ 8 := Nat.pow_le_pow_right (by decide) (by omega)
            omega
      · rename_i hx
        obtain ⟨n, h1, h2, ⟨t', h3⟩, h4, h5⟩ := ih _ _ _ _ h
        have hn := h5 (by omega)
        have hp : (n * 128 + x.toNat % 128) * 128 ^ k = n * 128 ^ (k + 1) + x.toNat % 128 * 128 ^ k := by
          rw [Nat.pow_succ, Nat.add_mul, Nat.mul_assoc, Nat.mul_comm 128 (128 ^ k)]
        have hnat : nat (n * 128 + x.toNat % 128) = x :: nat n := by
          rw [nat_big (by omega), show (n * 128 + x.toNat % 128) % 128 + 128 = x.toNat by omega, show (n * 128 + x.toNat % 128) / 128 = n by omega, UInt8.ofNat_toNat]
        refine ⟨n * 128 + x.toNat % 128, by rw [hp]; omega, by rw [hnat, List.length_cons]; omega, ⟨t', by rw [hnat, h3]; rfl⟩, ?_, fun _ => by omega⟩
        rw [hp]
        have h6 : x.toNat % 128 * 128 ^ k < 128 * 128 ^ k := Nat.mul_lt_mul_of_pos_right (by omega) (Nat.pow_pos (by decide))
        have h7 : k ≤ 8 := by
          rcases Nat.lt_or_ge 8 k with h9 | h9
          · exfalso
            have hb := pow_big (k := k + 1) (by omega)
            have := Nat.le_mul_of_pos_left (128 ^ (k + 1)) hn
            omega
          · exact h9
        have e1 : 2 ^ 64 = 2 ^ (64 - 7 * (k + 1)) * 128 ^ (k + 1) := by rw [pow128, ← Nat.pow_add]; congr 1; omega
        rw [e1] at h4 ⊢
        have h10 : n < 2 ^ (64 - 7 * (k + 1)) := Nat.lt_of_mul_lt_mul_right h4
        have h11 : (n + 1) * 128 ^ (k + 1) ≤ 2 ^ (64 - 7 * (k + 1)) * 128 ^ (k + 1) := Nat.mul_le_mul_right _ h10
        rw [Nat.add_mul, Nat.one_mul] at h11
        have h12 : 128 ^ (k + 1) = 128 * 128 ^ k := by rw [Nat.pow_succ, Nat.mul_comm]
        omega

/-- How many bytes that go on. -/
def lead : List UInt8 → Nat
  | [] => 0
  | x :: t => if 128 ≤ x.toNat then lead t + 1 else 0
theorem lead_le (l : List UInt8) : lead l ≤ l.length := by
  induction l with
  | nil => exact Nat.le_refl _
  | cons x t ih => unfold lead; split <;> simp <;> omega
/-- The first k + 1 bytes as a number, from byte i on. -/
def val : List UInt8 → Nat
  | [] => 0
  | x :: t => x.toNat % 128 + 128 * val t
/-- The document's way. -/
def rdR (l : List UInt8) : Nat × Nat × Nat :=
  let k := lead l
  if l.length ≤ k then (if 10 ≤ k then (0, 0, 5) else (0, 0, 4))
  else if 9 < k ∨ (k = 9 ∧ 1 < (l.getD 9 0).toNat) ∨ (0 < k ∧ (l.getD k 0).toNat = 0) then (0, 0, 5)
  else (val (l.take (k + 1)), k + 1, 0)
theorem rd_lead : ∀ (l : List UInt8) (k acc : Nat), k ≤ 10 → rd k acc l =
    if l.length ≤ lead l then (if 10 ≤ k + lead l ∧ (k < 10 ∨ l ≠ []) then (0, 0, 5) else (0, 0, 4))
    else if 9 < k + lead l ∨ (k + lead l = 9 ∧ 1 < (l.getD (lead l) 0).toNat) ∨ (0 < k + lead l ∧ (l.getD (lead l) 0).toNat = 0) then (0, 0, 5)
    else (acc + val (l.take (lead l + 1)) * 128 ^ k, k + lead l + 1, 0) := by
  intro l
  induction l with
  | nil => intro k acc hk; simp [rd, lead]
  | cons x t ih =>
    intro k acc hk
    rw [rd_step]
    have hx256 : x.toNat < 256 := x.toNat_lt
    by_cases hx : 128 ≤ x.toNat
    · have hl : lead (x :: t) = lead t + 1 := by show (if 128 ≤ x.toNat then lead t + 1 else 0) = _; rw [if_pos hx]
      rw [hl]
      have hlt := lead_le t
      by_cases hA : k = 9 ∨ 9 < k
      · rw [if_pos (by omega)]
        by_cases hB : (x :: t).length ≤ lead t + 1
        · rw [if_pos hB, if_pos ⟨by omega, .inr (by simp)⟩]
        · rw [if_neg hB, if_pos (by omega)]
      · rw [if_neg (by omega), if_neg (by omega), ih (k + 1) _ (by omega)]
        simp only [List.length_cons, Nat.add_le_add_iff_right, List.getD_cons_succ, List.take_succ_cons, val, Nat.pow_succ]
        have e1 : k + 1 + lead t = k + (lead t + 1) := by omega
        rw [e1]
        by_cases hB : t.length ≤ lead t
        · rw [if_pos hB, if_pos hB]
          by_cases hC : 10 ≤ k + (lead t + 1)
          · have hne : k + 1 < 10 ∨ t ≠ [] := by
              by_cases h : k + 1 < 10
              · exact .inl h
              · exact .inr (by rintro rfl; simp [lead] at hC; omega)
            rw [if_pos ⟨hC, hne⟩, if_pos ⟨hC, .inr (by simp)⟩]
          · rw [if_neg (fun h => hC h.1), if_neg (fun h => hC h.1)]
        · rw [if_neg hB, if_neg hB]
          split
          · rfl
          · simp only [Prod.mk.injEq, and_true]
            have e2 : 128 * val (List.take (lead t + 1) t) * 128 ^ k = val (List.take (lead t + 1) t) * (128 ^ k * 128) := by
              rw [Nat.mul_comm 128 (val _), Nat.mul_assoc, Nat.mul_comm 128]
            rw [Nat.add_mul, e2]; omega
    · have hl : lead (x :: t) = 0 := by show (if 128 ≤ x.toNat then lead t + 1 else 0) = _; rw [if_neg hx]
      rw [hl]
      simp only [List.length_cons, List.getD_cons_zero, Nat.add_zero, List.take_succ_cons, List.take_zero, val, Nat.mul_zero]
      rw [if_neg (show ¬ t.length + 1 ≤ 0 by omega)]
      by_cases hA : (k = 9 ∧ 1 < x.toNat) ∨ 9 < k
      · rw [if_pos hA, if_pos (by omega)]
      · rw [if_neg hA, if_pos (by omega)]
        by_cases hB : x.toNat = 0 ∧ 0 < k
        · rw [if_pos hB, if_pos (by omega)]
        · rw [if_neg hB, if_neg (by omega)]
theorem lead_big : ∀ (l : List UInt8) (j : Nat), j < lead l → 128 ≤ (l.getD j 0).toNat := by
  intro l
  induction l with
  | nil => intro j h; exact absurd h (Nat.not_lt_zero _)
  | cons x t ih =>
    intro j h
    by_cases hx : 128 ≤ x.toNat
    · have hl : lead (x :: t) = lead t + 1 := by show (if 128 ≤ x.toNat then lead t + 1 else 0) = _; rw [if_pos hx]
      cases j with
      | zero => exact hx
      | succ j => rw [List.getD_cons_succ]; exact ih j (by omega)
    · have hl : lead (x :: t) = 0 := by show (if 128 ≤ x.toNat then lead t + 1 else 0) = _; rw [if_neg hx]
      omega
theorem lead_end : ∀ (l : List UInt8), lead l < l.length → (l.getD (lead l) 0).toNat < 128 := by
  intro l
  induction l with
  | nil => intro h; exact absurd h (Nat.not_lt_zero _)
  | cons x t ih =>
    intro h
    by_cases hx : 128 ≤ x.toNat
    · have hl : lead (x :: t) = lead t + 1 := by show (if 128 ≤ x.toNat then lead t + 1 else 0) = _; rw [if_pos hx]
      rw [hl] at h ⊢
      rw [List.getD_cons_succ]; exact ih (by simpa using h)
    · have hl : lead (x :: t) = 0 := by show (if 128 ≤ x.toNat then lead t + 1 else 0) = _; rw [if_neg hx]
      rw [hl, List.getD_cons_zero]; omega
theorem val_step (l : List UInt8) (m : Nat) (h : m < l.length) : val (l.drop m) = (l.getD m 0).toNat % 128 + 128 * val (l.drop (m + 1)) := by
  rw [List.drop_eq_getElem_cons h, getD_of_lt _ _ _ h]; rfl
theorem val_le (l : List UInt8) : ∀ m, val (l.drop m) ≤ val l := by
  intro m
  induction m with
  | zero => exact Nat.le_refl _
  | succ m ih =>
    by_cases h : m < l.length
    · have := val_step l m h; omega
    · rw [List.drop_of_length_le (by omega)] at ih ⊢; exact ih
theorem rdR_eq (l : List UInt8) : rdR l = rd 0 0 l := by
  rw [rd_lead l 0 0 (by omega)]
  unfold rdR
  simp only [Nat.zero_add, Nat.pow_zero, Nat.mul_one]
  by_cases h : l.length ≤ lead l
  · rw [if_pos h, if_pos h]
    by_cases h2 : 10 ≤ lead l
    · rw [if_pos h2, if_pos ⟨h2, .inl (by omega)⟩]
    · rw [if_neg h2, if_neg (fun h => h2 h.1)]
  · rw [if_neg h, if_neg h]
    by_cases h9 : lead l = 9
    · rw [h9]
    · congr 1
      apply propext
      constructor <;> omega

/-- Where the document's way gives a number it is one of 64 bits. -/
theorem val_lt (l : List UInt8) (h : rdR l = (val (l.take (lead l + 1)), lead l + 1, 0)) : val (l.take (lead l + 1)) < 2 ^ 64 := by
  rw [rdR_eq] at h
  obtain ⟨n, h1, _, _, h4, _⟩ := rd_form _ _ _ _ _ h
  rw [Nat.pow_zero, Nat.mul_one] at h1 h4
  omega

/-- What Flag answers. -/
def flg (b : List UInt8) (a : Nat) (e : Int) : Bool × Nat × Int :=
  if e ≠ 0 then (false, a, e)
  else match b[a]? with
    | none => (false, a, 4)
    | some x => if 1 < x.toNat then (false, a, 5) else (decide (x.toNat = 1), a + 1, 0)
/-- A natural number as the whole one that it stands for. -/
def unfold_ (n : Nat) : Int := if n % 2 = 0 then ((n / 2 : Nat) : Int) else -((n / 2 : Nat) : Int) - 1
theorem unfold_fold (i : Int) : unfold_ (fold i) = i := by unfold unfold_ fold; split <;> split <;> omega
theorem fold_unfold (n : Nat) : fold (unfold_ n) = n := by unfold unfold_ fold; split <;> split <;> omega
end Go.Proofs.Ytoflehlkacofjaa.Form
/- Walk of wire.Nat. -/
namespace Go.Proofs.Ytoflehlkacofjaa
open Go.ChangeShapes Go.WideShapes Go.ChangeAt Go.RowKit
set_option linter.unusedVariables false
theorem hel : Elem Try.prog 39 5 (.int .u8 0) 1 1 := ⟨Try.underlying39, by kernel_rfl, rfl, by decide⟩

theorem or128_u8 (a : Nat) (ha : a < 256) : bits .or .u8 (a : Int) 128 = ((a % 128 + 128 : Nat) : Int) := by
  have e : bits .or .u8 (a : Int) 128 = IntKind.u8.wrap (((BitVec.ofInt 8 a ||| BitVec.ofInt 8 ((128 : Nat) : Int) : BitVec 8).toNat : Nat) : Int) := rfl
  rw [e, BitVec.toNat_or, BitVec.ofInt_natCast, BitVec.ofInt_natCast, BitVec.toNat_ofNat, BitVec.toNat_ofNat, Nat.mod_eq_of_lt ha, Nat.mod_eq_of_lt (by decide)]
  have h : ∀ m, m < 256 → (m ||| 128) = m % 128 + 128 := by decide +kernel
  rw [h _ (by omega), IntKind.wrap_u8]; omega
theorem wrap_u8_nat (m : Nat) : IntKind.u8.wrap (m : Int) = ((m % 256 : Nat) : Int) := by rw [IntKind.wrap_u8]; omega

theorem RdB_one (w : World) (e : TypeId) (x : Nat) (hx : x < 256) : RdB (w.alloc (.cells #[.int .u8 (x : Int)] e)) (.slice (some ⟨w.heap.size, 0, none⟩) 1 1) [UInt8.ofNat x] := by
  refine RdB_of_block (heap_alloc_new w _) rfl (by decide) (by decide) fun i hi => ?_
  match i, hi with
  | 0, _ => show some (Value.int .u8 (x : Int)) = some (.int .u8 (((UInt8.ofNat x).toNat : Nat) : Int)); rw [Form.byte_lt _ hx]
theorem OB.alloc {w : World} {base : Nat} {e : TypeId} {v : Value} {l : List UInt8} (h : OB w base e v l) (o : Obj) : OB (w.alloc o) base e v l := h.keeps ((Keeps.refl w).alloc o)

set_option maxRecDepth 100000 in
set_option maxHeartbeats 800000 in
theorem nat_w (base : Nat) (v : Value) (l : List UInt8) (n : Nat) (w : World) (ho : OB w base 5 v l) (hn : n < 2 ^ 64) (hl : l.length ≤ 1000000) (hb : base ≤ w.heap.size) :
    Calls Try.prog 25 #[v, .int .u64 (n : Int)] w fun e w' => ∃ p k c, e = .returned (.slice p k c) ∧ k = (l ++ Form.nat n).length ∧ OB w' base 5 (.slice p k c) (l ++ Form.nat n) ∧ Below base w w' := by
  obtain ⟨p0, c0, rfl⟩ := ho.form
  have Ho := Lib.hid ho
  have h10 := Form.nat_len10 hn
  have H10 := Lib.hid h10
  clear ho h10
  go_enter Try.func25, Try.ntmps25
  go_wp2
  go_loopw [0, 1] (fun b x wr => ∃ (m : Nat) (p : Option Addr) (k c : Nat) (o : List UInt8), m < 18446744073709551616 ∧ x = .int .u64 (m : Int) ∧ b = .slice p k c ∧ k = o.length ∧ o ++ Form.nat m = l ++ Form.nat n ∧ OB wr base 5 (.slice p k c) o ∧ Below base w wr) (fun _ x _ => (intOf x).toNat)
  case atStart => exact ⟨n, p0, _, c0, l, by omega, rfl, rfl, rfl, rfl, Ho.out, Below.refl _ _⟩
  case round =>
    obtain ⟨m, p, k, c, o, hm, rfl, rfl, hk, he, ho, hB⟩ := hrel
    have He := Lib.hid he
    have Hk := Lib.hid hk
    have HB := Lib.hid hB
    have HO := Lib.hid ho
    have hlen : o.length + 1 ≤ 1000011 := by have := congrArg List.length he; rw [List.length_append, List.length_append] at this; have := Form.nat_pos m; have := H10.out; omega
    have hbw : base ≤ wr.heap.size := by have := hB.size; omega
    clear he hk hB ho
    obtain ⟨y8, hy8⟩ : ∃ y, y = m % 256 := ⟨_, rfl⟩
    have hw8 := wrap_u8_nat m
    rw [← hy8] at hw8
    by_cases hbig : 128 ≤ m
    · obtain ⟨x8, hx8⟩ : ∃ x, x = m % 128 + 128 := ⟨_, rfl⟩
      have hor := or128_u8 y8 (by omega)
      rw [show y8 % 128 + 128 = x8 by omega] at hor
      obtain ⟨m7, hm7⟩ : ∃ x, x = m / 128 := ⟨_, rfl⟩
      have Hm7 := Lib.hid hm7
      have Hone := Lib.hid (RdB_one wr 5 x8 (by omega))
      have HO1 := Lib.hid (HO.out.alloc (.cells #[.int .u8 (x8 : Int)] 5))
      have Hxm := Lib.hid (show x8 = m % 128 + 128 from hx8)
      clear hx8 hy8 hm7
      go_wp2_with (refine wpList_append_bytes rfl (.tmp 7) (.tmp 11) 39 rfl hel rfl HO1.out rfl Hone.out (by simp; omega) (by simp; omega) ?_; intro p1 n1 c1 w1 hn1 ho1 hg1; have Hn1 := Lib.hid hn1; have Ho1 := Lib.hid ho1; have Hg1 := Lib.hid (HB.out.trans ((Below.refl base wr).alloc (by omega) _ |>.trans (below_own HO1.out hg1 (by simp; omega)))); clear hn1 ho1 hg1)
      go_roundw
      case rel =>
        refine ⟨m7, p1, n1, c1, _, by have := Hm7.out; omega, by have := Hm7.out; congr 1; omega, rfl, Hn1.out, ?_, Ho1.out, Hg1.out⟩
        rw [← He.out, Form.nat_big (n := m) (by omega), List.append_assoc, Hm7.out, Hxm.out]; rfl
      case measure => have := Hm7.out; simp [intOf]; omega
    · have Hone := Lib.hid (RdB_one wr 5 y8 (by omega))
      have HO1 := Lib.hid (HO.out.alloc (.cells #[.int .u8 (y8 : Int)] 5))
      have he := He.out
      rw [Form.nat_small (n := m) (by omega), show m = y8 by omega] at he
      have He2 := Lib.hid he
      clear he hy8
      go_wp2_with (refine wpList_append_bytes rfl (.tmp 15) (.tmp 18) 39 rfl hel rfl HO1.out rfl Hone.out (by simp; omega) (by simp; omega) ?_; intro p1 n1 c1 w1 hn1 ho1 hg1; have Hn1 := Lib.hid hn1; have Ho1 := Lib.hid ho1; have Hg1 := Lib.hid (HB.out.trans ((Below.refl base wr).alloc (by omega) _ |>.trans (below_own HO1.out hg1 (by simp; omega)))); clear hn1 ho1 hg1)
      go_ret
      refine ⟨p1, n1, c1, rfl, ?_, ?_, Hg1.out⟩
      · rw [← He2.out]; exact Hn1.out
      · rw [← He2.out]; exact Ho1.out
end Go.Proofs.Ytoflehlkacofjaa
/- Walks of folded and wire.Int. -/
namespace Go.Proofs.Ytoflehlkacofjaa
open Go.ChangeShapes Go.WideShapes Go.ChangeAt Go.RowKit
set_option linter.unusedVariables false
theorem xor_u64 (a b : Nat) (ha : a < 2 ^ 64) (hb : b < 2 ^ 64) : bits .xor .u64 (a : Int) (b : Int) = ((a ^^^ b : Nat) : Int) := by
  have e : bits .xor .u64 (a : Int) (b : Int) = IntKind.u64.wrap (((BitVec.ofInt 64 a ^^^ BitVec.ofInt 64 b : BitVec 64).toNat : Nat) : Int) := rfl
  rw [e, BitVec.toNat_xor, BitVec.ofInt_natCast, BitVec.ofInt_natCast, BitVec.toNat_ofNat, BitVec.toNat_ofNat, Nat.mod_eq_of_lt ha, Nat.mod_eq_of_lt hb]
  have := Nat.xor_lt_two_pow ha hb
  rw [IntKind.wrap_u64]; omega
theorem xor_ones (a : Nat) (ha : a < 2 ^ 64) : a ^^^ 18446744073709551615 = 18446744073709551615 - a := by
  have h := BitVec.toNat_not (x := BitVec.ofNat 64 a)
  have h2 : (~~~(BitVec.ofNat 64 a)) = BitVec.ofNat 64 a ^^^ BitVec.allOnes 64 := by rw [BitVec.xor_allOnes]
  rw [h2, BitVec.toNat_xor, BitVec.toNat_ofNat, BitVec.toNat_allOnes, Nat.mod_eq_of_lt ha] at h
  exact h

set_option maxRecDepth 100000 in
theorem folded_w (i : Int) (w : World) (h1 : -9223372036854775808 ≤ i) (h2 : i ≤ 9223372036854775807) :
    Calls Try.prog 71 #[.int .i64 i] w fun e w' => e = .returned (.int .u64 (Form.fold i : Nat)) ∧ w' = w := by
  obtain ⟨n, hn⟩ : ∃ n, Form.fold i = n := ⟨_, rfl⟩
  rw [hn]
  by_cases h0 : 0 ≤ i
  · obtain ⟨m, rfl⟩ : ∃ m : Nat, i = (m : Int) := ⟨i.toNat, by omega⟩
    have e1 : IntKind.u64.wrap (m : Int) = (m : Int) := IntWalk.u64_in _ (by omega)
    have e2 : (m : Int) / 9223372036854775808 = 0 := by omega
    have e3 : n = 2 * m := by rw [← hn]; unfold Form.fold; rw [if_pos (by omega)]; omega
    have e4 : IntKind.u64.wrap ((m : Int) * 2) = (n : Int) := by rw [IntKind.wrap_u64]; omega
    have e5 : bits .xor .u64 (n : Int) 0 = (n : Int) := by have := xor_u64 n 0 (by omega) (by omega); rwa [Nat.xor_zero] at this
    have e6 : IntKind.u64.wrap 0 = 0 := by decide
    clear hn e3
    go_enter Try.func71, Try.ntmps71
    go_wp2
    go_ret
    exact ⟨rfl, rfl⟩
  · have e1 : IntKind.u64.wrap i = i + 18446744073709551616 := by rw [IntKind.wrap_u64]; omega
    have e2 : i / 9223372036854775808 = -1 := by omega
    obtain ⟨q, hq⟩ : ∃ q : Nat, (q : Int) = 2 * i + 18446744073709551616 := ⟨(2 * i + 18446744073709551616).toNat, by omega⟩
    have e3 : n = 18446744073709551615 - q := by rw [← hn]; unfold Form.fold; rw [if_neg (by omega)]; omega
    have e4 : IntKind.u64.wrap ((i + 18446744073709551616) * 2) = (q : Int) := by rw [IntKind.wrap_u64]; omega
    have e5 : bits .xor .u64 (q : Int) 18446744073709551615 = (n : Int) := by
      have := xor_u64 q 18446744073709551615 (by omega) (by omega)
      rw [xor_ones q (by omega), ← e3] at this
      exact this
    have e6 : IntKind.u64.wrap (-1) = 18446744073709551615 := by decide
    clear hn e3 hq
    go_enter Try.func71, Try.ntmps71
    go_wp2
    go_ret
    exact ⟨rfl, rfl⟩

end Go.Proofs.Ytoflehlkacofjaa
/- Walks of the reader. -/
namespace Go.Proofs.Ytoflehlkacofjaa
open Go.ChangeShapes Go.WideShapes Go.ChangeAt Go.RowKit
set_option linter.unusedVariables false
/-- A reader lies at block g. -/
def Rdr (w : World) (g : Nat) (v : Value) (at_ : Nat) (e : Int) : Prop := w.heap[g]? = some (.cells #[v, .int .i64 (at_ : Int), .int .i64 e] 98)

theorem new_w (p : Option Addr) (n c : Nat) (w : World) :
    Calls Try.prog 41 #[.slice p n c] w fun e w' => e = .returned (.pointer (some ⟨w.heap.size, 0, none⟩)) ∧ w' = w.alloc (.cells #[.slice p n c, .int .i64 0, .int .i64 0] 98) := by
  go_enter Try.func41, Try.ntmps41
  go_wp2
  go_ret
  exact ⟨rfl, rfl⟩

theorem off_w (g : Nat) (v : Value) (a : Nat) (e : Int) (w : World) (h : Rdr w g v a e) :
    Calls Try.prog 72 #[.pointer (some ⟨g, 0, none⟩)] w fun r w' => r = .returned (.bool (decide (e ≠ 0))) ∧ w' = w := by
  have h2 : w.cell? ⟨g, 2, none⟩ = some (.int .i64 e) := by rw [cell_of_row _ _ _ _ _ _ h]; rfl
  by_cases h0 : e = 0
  · subst h0
    go_enter Try.func72, Try.ntmps72
    go_wp2
    go_ret
    exact ⟨rfl, rfl⟩
  · have hd : decide (e = 0) = false := by simp [h0]
    have hb : (e != 0) = true := by simp [h0]
    go_enter Try.func72, Try.ntmps72
    go_wp2
    go_ret
    refine ⟨?_, rfl⟩
    simp [h0]

theorem and127_u8 (a : Nat) (ha : a < 2 ^ 8) : bits .and .u8 (a : Int) 127 = ((a % 128 : Nat) : Int) := by
  have e : bits .and .u8 (a : Int) 127 = IntKind.u8.wrap (((BitVec.ofInt 8 a &&& BitVec.ofInt 8 ((127 : Nat) : Int) : BitVec 8).toNat : Nat) : Int) := rfl
  rw [e, BitVec.toNat_and, BitVec.ofInt_natCast, BitVec.ofInt_natCast, BitVec.toNat_ofNat, BitVec.toNat_ofNat, Nat.mod_eq_of_lt ha, Nat.mod_eq_of_lt (by decide)]
  have h : ∀ m, m < 256 → (m &&& 127) = m % 128 := by decide +kernel
  rw [h _ (by omega), IntKind.wrap_u8]; omega
theorem or_u64 (a z k : Nat) (ha : a < 128 ^ k) (hz : z * 128 ^ k < 2 ^ 64) (hk : k ≤ 9) : bits .or .u64 (a : Int) ((z * 128 ^ k : Nat) : Int) = ((a + z * 128 ^ k : Nat) : Int) := by
  have e : ∀ b : Nat, bits .or .u64 (a : Int) (b : Int) = IntKind.u64.wrap (((BitVec.ofInt 64 a ||| BitVec.ofInt 64 b : BitVec 64).toNat : Nat) : Int) := fun _ => rfl
  have h7 : (128 : Nat) ^ k = 2 ^ (7 * k) := by rw [Nat.pow_mul]
  have ha64 : a < 2 ^ 64 := Nat.lt_of_lt_of_le ha (by rw [h7]; exact Nat.pow_le_pow_right (by decide) (by omega))
  rw [e, BitVec.toNat_or, BitVec.ofInt_natCast, BitVec.ofInt_natCast, BitVec.toNat_ofNat, BitVec.toNat_ofNat, Nat.mod_eq_of_lt ha64, Nat.mod_eq_of_lt hz]
  rw [h7] at hz ⊢
  have h2 := Nat.two_pow_add_eq_or_of_lt (i := 7 * k) (b := a) (by rwa [h7] at ha) z
  rw [Nat.or_comm, Nat.mul_comm z, ← h2]
  have h3 := Nat.or_lt_two_pow ha64 hz
  rw [Nat.or_comm, Nat.mul_comm z, ← h2] at h3
  rw [IntKind.wrap_u64]; omega

theorem PtB.drop {w : World} {p : Option Addr} {c : Nat} {l : List UInt8} (h : PtB w p c l) (a : Nat) (ha : a ≤ l.length) : PtB w (if c = a then p else p.map (·.add (a * 1))) (c - a) (l.drop a) := by
  obtain ⟨h1, h2, h3, h4⟩ := h
  refine ⟨fun e => ?_, by rw [List.length_drop]; omega, by omega, fun hne => ?_⟩
  · split at e
    · omega
    · cases p with
      | none => have := h1 rfl; omega
      | some x => cases e
  · have hlt : a < l.length := by
      rcases Nat.lt_or_ge a l.length with hh | hh
      · exact hh
      · exact absurd (List.drop_eq_nil_of_le hh) hne
    obtain ⟨b, off, rfl, hc⟩ := h4 (by rintro rfl; simp at hlt)
    rw [if_neg (by omega)]
    refine ⟨b, off + a, by simp [Addr.add], fun i hi => ?_⟩
    rw [List.length_drop] at hi
    have := hc (a + i) (by omega)
    rw [← Nat.add_assoc] at this
    rw [this]
    simp [List.getD]

set_option maxRecDepth 100000 in
set_option maxHeartbeats 800000 in
theorem rd_w (g : Nat) (v : Value) (b : List UInt8) (a : Nat) (e : Int) (w : World) (h : Rdr w g v a e) (hb : RdB w v b) (ha : a ≤ b.length) (hl : b.length ≤ 1000000) :
    Calls Try.prog 73 #[.pointer (some ⟨g, 0, none⟩)] w fun r w' => RegT.Same w w' ∧ ∃ n cnt f : Nat, Form.rd 0 0 (b.drop a) = (n, cnt, f) ∧
      r = .returned (.tuple #[.int .u64 (n : Int), .int .i64 ((if f = 0 then a + cnt else 0 : Nat) : Int), .int .i64 (f : Int)]) := by
  obtain ⟨p, c, rfl, hp⟩ := hb
  have h0 : w.cell? ⟨g, 0, none⟩ = some (.slice p b.length c) := by rw [cell_of_row _ _ _ _ _ _ h]; rfl
  have h1 : w.cell? ⟨g, 1, none⟩ = some (.int .i64 (a : Int)) := by rw [cell_of_row _ _ _ _ _ _ h]; rfl
  have hgl : g < w.heap.size := (Array.getElem?_eq_some_iff.1 h).1
  have hs := fun (w : World) => run_slice_lo (P := Try.prog) 39 5 Try.underlying39 1 (show (Try.prog.info? 5).map (·.size) = some 1 by kernel_rfl) p b.length c a ha w
  have hd := hp.drop a ha
  have hdl : (b.drop a).length = b.length - a := List.length_drop
  generalize (if c = a then p else p.map (·.add (a * 1))) = q at *
  generalize c - a = c2 at *
  rw [← hdl] at hs
  have hdm : (b.drop a).length ≤ 1000000 := by omega
  generalize b.drop a = d at *
  have Hd := Lib.hid hd
  have Hdl := Lib.hid hdl
  clear hd hdl hp h
  go_enter Try.func73, Try.ntmps73
  go_wp2
  go_quiet (fail)
  go_wp2
  go_loopw [2, 5, 6, 17] (fun n _ _ i wr => ∃ k acc : Nat, k ≤ d.length ∧ k ≤ 9 ∧ acc < 128 ^ k ∧ i = .int .i64 (k : Int) ∧ n = .int .u64 (acc : Int) ∧ Form.rd 0 0 d = Form.rd k acc (d.drop k) ∧ RegT.Same w wr) (fun _ _ _ i _ => d.length - (intOf i).toNat)
  case atStart => exact ⟨0, 0, by omega, by omega, by omega, rfl, rfl, rfl, ⟨rfl, rfl, rfl, rfl⟩⟩
  case round =>
    obtain ⟨k, acc, hk, hk9, hacc, rfl, rfl, he, hS⟩ := hrel
    have Hacc := Lib.hid hacc
    have He := Lib.hid he
    have HS := Lib.hid hS
    clear hacc he hS
    by_cases hlt : k < d.length
    · obtain ⟨bq, oq, rfl, hbq, hcq⟩ := (Hd.out.keeps (.of_heap HS.out.heap)).at hlt
      have hdr : d.drop k = d.getD k 0 :: d.drop (k + 1) := by rw [getD_of_lt _ _ _ hlt, List.drop_eq_getElem_cons hlt]
      have hx := UInt8.toNat_lt (d.getD k 0)
      have Hdr := Lib.hid hdr
      clear hdr
      generalize d.getD k 0 = x8 at *
      generalize hx8 : x8.toNat = x at *
      have Hx8 := Lib.hid hx8
      clear hx8
      have hy := and127_u8 x hx
      obtain ⟨y, hyx⟩ : ∃ y, y = x % 128 := ⟨_, rfl⟩
      rw [← hyx] at hy
      have hyw : IntKind.u64.wrap (y : Int) = (y : Int) := IntWalk.u64_in _ (by omega)
      have Hyx := Lib.hid hyx
      clear hyx
      have h1r := HS.out.cell h1
      have Hsucc := Form.rd_step k acc x8 (d.drop (k + 1))
      rw [Hx8.out] at Hsucc
      have Hrd := Lib.hid (He.out.trans ((congrArg _ Hdr.out).trans Hsucc))
      clear Hsucc
      by_cases hbad : k = 9 ∧ 1 < x
      · obtain ⟨h9, h1x⟩ := hbad
        have hd9 : decide ((k : Int) = 9) = true := by simp; omega
        have hd9' : ((k : Int) == 9) = true := by simp; omega
        have H9 := Lib.hid h9
        have h1b : decide (1 < (x : Int)) = true := by simp; omega
        clear h9
        go_wp2
        go_ret3
        refine ⟨HS.out, 0, 0, 5, ?_, rfl⟩
        rw [Hrd.out, if_pos (.inl ⟨H9.out, h1x⟩)]
      · have hz64 : y * 128 ^ k < 2 ^ 64 := by
          have := Hyx.out
          rcases Nat.lt_or_ge k 9 with h | h
          · have h2 : (128 : Nat) ^ k ≤ 128 ^ 8 := Nat.pow_le_pow_right (by decide) (by omega)
            have h3 : y * 128 ^ k ≤ 127 * 128 ^ 8 := Nat.mul_le_mul (by omega) h2
            omega
          · have : k = 9 := by omega
            subst this
            have : y ≤ 1 := by omega
            omega
        have hor := or_u64 acc y k Hacc.out hz64 hk9
        obtain ⟨z, hz⟩ : ∃ z, z = y * 128 ^ k := ⟨_, rfl⟩
        rw [← hz] at hor hz64
        have hsh : IntKind.u64.wrap ((y : Int) * 2 ^ (7 * k)) = (z : Int) := by
          have e : ((y : Int) * 2 ^ (7 * k)) = (z : Int) := by rw [hz, show (128 : Nat) = 2 ^ 7 from rfl, ← Nat.pow_mul]; push_cast; rfl
          rw [e]; exact IntWalk.u64_in _ (by omega)
        obtain ⟨q2, hq2⟩ : ∃ q, q = acc + z := ⟨_, rfl⟩
        rw [← hq2] at hor
        have Hz := Lib.hid hz
        have Hq2 := Lib.hid hq2
        have hrd := Hrd.out
        rw [if_neg (by omega), ← Hyx.out, ← hz, ← hq2] at hrd
        clear hz hq2 hz64
        have hdg : decide (9 < (k : Int)) = false := by simp; omega
        obtain ⟨b9, hb9⟩ : ∃ b9, decide ((k : Int) = 9) = b9 := ⟨_, rfl⟩
        have hb9' : ((k : Int) == 9) = b9 := by rw [← hb9]; rfl
        have hx1 : b9 = true → decide (1 < (x : Int)) = false := fun e => by rw [e] at hb9; simp at hb9 ⊢; omega
        have hxx : b9 = false ∨ (b9 = true ∧ decide (1 < (x : Int)) = false) := by cases b9 <;> simp_all
        clear hx1 hbad
        by_cases hx128 : x < 128
        · rw [if_pos hx128] at hrd
          have Hrd3 := Lib.hid hrd
          clear hrd
          rcases hxx with rfl | ⟨rfl, hx1⟩
          all_goals go_wp2
          all_goals first
            | (go_quiet (fail); go_wp2; go_ret3; refine ⟨RegT.Same.trans _ _ _ HS.out ⟨rfl, rfl, rfl, rfl⟩, q2, k + 1, 0, ?_, ?_⟩
               · rw [Hrd3.out, if_neg (by omega)]
               · rw [if_pos rfl]; push_cast; rfl)
            | (go_ret3; refine ⟨HS.out, 0, 0, 5, ?_, rfl⟩; rw [Hrd3.out, if_pos (by omega)])
        · rw [if_neg hx128] at hrd
          have Hrd3 := Lib.hid hrd
          have hacc2 : q2 < 128 ^ (k + 1) := by
            have h1 := Hacc.out
            have h2 : z ≤ 127 * 128 ^ k := by rw [Hz.out]; exact Nat.mul_le_mul_right _ (by have := Hyx.out; omega)
            rw [Hq2.out, Nat.pow_succ]; omega
          have hk8 : k ≤ 8 := by
            rcases hxx with rfl | ⟨rfl, hx1⟩
            · simp at hb9; omega
            · simp at hx1; omega
          have Hacc2 := Lib.hid hacc2
          clear hrd hacc2
          rcases hxx with rfl | ⟨rfl, hx1⟩
          all_goals go_wp2
          all_goals go_roundw
          all_goals first
            | (refine ⟨k + 1, q2, by omega, by omega, Hacc2.out, by go_num, rfl, Hrd3.out, HS.out⟩)
            | (simp [intOf]; omega)
    · have hkd : k = d.length := by omega
      have he := He.out
      rw [List.drop_of_length_le (by omega)] at he
      have He2 := Lib.hid he
      clear he
      go_wp2
      go_ret3
      exact ⟨HS.out, 0, 0, 4, He2.out, rfl⟩
end Go.Proofs.Ytoflehlkacofjaa
/- Walks of the reader: Small, Nat, Int, Left, Done, Fail. -/
namespace Go.Proofs.Ytoflehlkacofjaa
open Go.ChangeShapes Go.WideShapes Go.ChangeAt Go.RowKit
set_option linter.unusedVariables false
theorem Rdr.lt {w : World} {g : Nat} {v : Value} {a : Nat} {e : Int} (h : Rdr w g v a e) : g < w.heap.size := (Array.getElem?_eq_some_iff.1 h).1
theorem Rdr.set1 {w : World} {g : Nat} {v : Value} {a : Nat} {e : Int} (h : Rdr w g v a e) (a' : Nat) : Rdr (w.setCell ⟨g, 1, none⟩ (.int .i64 (a' : Int))) g v a' e := by
  unfold Rdr at *
  simp only [World.setCell, Array.getElem?_modify, h]; rfl
theorem Rdr.set2 {w : World} {g : Nat} {v : Value} {a : Nat} {e : Int} (h : Rdr w g v a e) (e' : Int) : Rdr (w.setCell ⟨g, 2, none⟩ (.int .i64 e')) g v a e' := by
  unfold Rdr at *
  simp only [World.setCell, Array.getElem?_modify, h]; rfl
theorem Rdr.same {w w' : World} {g : Nat} {v : Value} {a : Nat} {e : Int} (h : Rdr w g v a e) (hs : RegT.Same w w') : Rdr w' g v a e := by unfold Rdr; rw [hs.heap]; exact h
theorem Rdr.frozen {w : World} {g : Nat} {v : Value} {a : Nat} {e : Int} (h : Rdr w g v a e) (i : Nat) : w.frozen? ⟨g, i, none⟩ = false := by
  unfold Rdr at h
  simp [World.frozen?, h]

theorem Rdr.cell0 {w : World} {g : Nat} {v : Value} {a : Nat} {e : Int} (h : Rdr w g v a e) : w.cell? ⟨g, 0, none⟩ = some v := by rw [cell_of_row _ _ _ _ _ _ h]; rfl
theorem Rdr.cell1 {w : World} {g : Nat} {v : Value} {a : Nat} {e : Int} (h : Rdr w g v a e) : w.cell? ⟨g, 1, none⟩ = some (.int .i64 (a : Int)) := by rw [cell_of_row _ _ _ _ _ _ h]; rfl
theorem Rdr.cell2 {w : World} {g : Nat} {v : Value} {a : Nat} {e : Int} (h : Rdr w g v a e) : w.cell? ⟨g, 2, none⟩ = some (.int .i64 e) := by rw [cell_of_row _ _ _ _ _ _ h]; rfl
/-- The slice does not lie in block g. -/
def Off (v : Value) (g : Nat) : Prop := ∀ a n c, v = .slice (some a) n c → n ≠ 0 → a.block ≠ g
theorem RdB.grown {w w' : World} {v : Value} {l : List UInt8} {g : Nat} (h : RdB w v l) (hg : w.grownBy w' (some g)) (ho : Off v g) : RdB w' v l := by
  obtain ⟨p, c, rfl, h1, h2, h3, h4⟩ := h
  refine ⟨p, c, rfl, h1, h2, h3, fun hne => ?_⟩
  obtain ⟨b, off, rfl, hc⟩ := h4 hne
  have := ho _ _ _ rfl (fun e => hne (List.eq_nil_of_length_eq_zero e))
  exact ⟨b, off, rfl, fun i hi => hg.cell (hc i hi) (fun e => this (by cases e; rfl))⟩
theorem RdB.off {w : World} {v : Value} {l : List UInt8} (h : RdB w v l) {g : Nat} (hg : w.heap.size ≤ g) : Off v g := by
  obtain ⟨p, c, rfl, hp⟩ := h
  intro a n c' e hn
  simp only [Value.slice.injEq] at e
  obtain ⟨rfl, rfl, rfl⟩ := e
  obtain ⟨b, off, e, hb, _⟩ := hp.at (k := 0) (by omega)
  cases e
  show b ≠ g
  omega
/-- The reader at block g is now at this place, with this fault; all else is as it was. -/
def Moved (w w' : World) (g : Nat) (v : Value) (a : Nat) (e : Int) : Prop := Rdr w' g v a e ∧ w.grownBy w' (some g)
theorem same_grown {w w' : World} (h : RegT.Same w w') (row : Option Nat) : w.grownBy w' row := ⟨h.os, h.tape, h.output, by rw [h.heap]; exact Nat.le_refl _, fun k _ _ => by rw [h.heap]⟩
theorem moved_set1 {w W : World} {g : Nat} {v : Value} {a : Nat} {e : Int} (h : Rdr w g v a e) (hs : RegT.Same w W) (a' : Nat) : Moved w (W.setCell ⟨g, 1, none⟩ (.int .i64 (a' : Int))) g v a' e :=
  ⟨(h.same hs).set1 a', (same_grown hs _).trans (Lib.grownBy_setCell W g 1 _)⟩
theorem moved_set2 {w W : World} {g : Nat} {v : Value} {a : Nat} {e : Int} (h : Rdr w g v a e) (hs : RegT.Same w W) (e' : Int) : Moved w (W.setCell ⟨g, 2, none⟩ (.int .i64 e')) g v a e' :=
  ⟨(h.same hs).set2 e', (same_grown hs _).trans (Lib.grownBy_setCell W g 2 _)⟩

set_option maxRecDepth 100000 in
set_option maxHeartbeats 800000 in
theorem small_w (g : Nat) (v : Value) (b : List UInt8) (a : Nat) (e : Int) (most : Nat) (w : World) (h : Rdr w g v a e) (hb : RdB w v b) (ha : a ≤ b.length) (hl : b.length ≤ 1000000) (hm : most < 2 ^ 64) :
    Calls Try.prog 42 #[.pointer (some ⟨g, 0, none⟩), .int .u64 (most : Int)] w fun r w' => ∃ n a' : Nat, ∃ e' : Int, Form.small b a e most = (n, a', e') ∧ r = .returned (.int .u64 (n : Int)) ∧ Moved w w' g v a' e' := by
  have Hoff := Lib.hid (off_w g v a e w h)
  have Hrd := Lib.hid (rd_w g v b a e w h hb ha hl)
  have H := Lib.hid h
  clear h
  by_cases h0 : e = 0
  · go_enter Try.func42, Try.ntmps42
    have hd : decide (e ≠ 0) = false := by simp [h0]
    have H0 := Lib.hid h0
    clear h0
    obtain ⟨r3, hr3⟩ : ∃ r3, Form.rd 0 0 (b.drop a) = r3 := ⟨_, rfl⟩
    have hsm : Form.small b a e most = if r3.2.2 = 0 then (if most < r3.1 then (0, a, 5) else (r3.1, a + r3.2.1, 0)) else (0, a, ((r3.2.2 : Nat) : Int)) := by
      unfold Form.small; rw [if_neg (by simp [H0.out]), hr3]
    have Hsm := Lib.hid hsm
    have Hr3 := Lib.hid hr3
    clear hsm hr3
    go_wp2_with (first
      | (go_at_call 72; refine (Hoff.out).mono ?_; rintro e w1 ⟨rfl, rfl⟩)
      | (go_at_call 73; refine (Hrd.out).mono ?_; rintro e w1 ⟨hS, n, cnt, f, hrd, rfl⟩; have HS := Lib.hid hS; have hf1 := (H.out.same hS).frozen 1; have hf2 := (H.out.same hS).frozen 2; have hc1 := (H.out.same hS).cell1; have hc2 := (H.out.same hS).cell2; have Hrd2 := Lib.hid (Hr3.out.symm.trans hrd); clear hS hrd))
    all_goals go_ret
    · refine ⟨_, _, _, ?_, rfl, moved_set2 H.out HS.out _⟩
      rw [Hsm.out, Hrd2.out, if_pos (by assumption), if_pos (by assumption)]
    · refine ⟨_, _, _, ?_, rfl, moved_set1 H.out HS.out _⟩
      rw [Hsm.out, Hrd2.out, if_pos (by assumption), if_neg (by omega), H0.out]
    · refine ⟨_, _, _, ?_, rfl, moved_set2 H.out HS.out _⟩
      rw [Hsm.out, Hrd2.out, if_neg (by assumption)]
  · have hd : decide (e ≠ 0) = true := by simp [h0]
    go_enter Try.func42, Try.ntmps42
    have H0 := Lib.hid h0
    clear h0
    go_wp2_with (first
      | (go_at_call 72; refine (Hoff.out).mono ?_; rintro e w1 ⟨rfl, rfl⟩))
    go_ret
    refine ⟨0, a, e, ?_, rfl, H.out, World.grownBy.refl _ _⟩
    unfold Form.small; rw [if_pos H0.out]
end Go.Proofs.Ytoflehlkacofjaa
/- Walks of the reader: Nat, Done; known. -/
namespace Go.Proofs.Ytoflehlkacofjaa
open Go.ChangeShapes Go.WideShapes Go.ChangeAt Go.RowKit
set_option linter.unusedVariables false
set_option maxRecDepth 100000 in
theorem rnat_w (g : Nat) (v : Value) (b : List UInt8) (a : Nat) (e : Int) (w : World) (h : Rdr w g v a e) (hb : RdB w v b) (ha : a ≤ b.length) (hl : b.length ≤ 1000000) :
    Calls Try.prog 43 #[.pointer (some ⟨g, 0, none⟩)] w fun r w' => ∃ n a' : Nat, ∃ e' : Int, Form.small b a e 18446744073709551615 = (n, a', e') ∧ r = .returned (.int .u64 (n : Int)) ∧ Moved w w' g v a' e' := by
  have H := Lib.hid (small_w g v b a e 18446744073709551615 w h hb ha hl (by decide))
  clear h
  go_enter Try.func43, Try.ntmps43
  go_wp2_with (go_at_call 42; refine (H.out).mono ?_; rintro r w1 ⟨n, a', e', h1, rfl, h2⟩; have Hfin := Lib.hid (And.intro h1 h2); clear h1 h2)
  go_ret
  exact ⟨n, a', e', Hfin.out.1, rfl, Hfin.out.2⟩

set_option maxRecDepth 100000 in
theorem done_w (g : Nat) (v : Value) (b : List UInt8) (a : Nat) (e : Int) (w : World) (h : Rdr w g v a e) (hb : RdB w v b) (ha : a ≤ b.length) :
    Calls Try.prog 50 #[.pointer (some ⟨g, 0, none⟩)] w fun r w' => r = .returned (.int .i64 (Form.done b.length a e)) ∧ RegT.Same w w' := by
  obtain ⟨p, c, rfl, hp⟩ := hb
  have hc0 := h.cell0
  have hc1 := h.cell1
  have hc2 := h.cell2
  clear h hp
  by_cases h0 : e = 0
  · subst h0
    by_cases h1 : a < b.length
    · have hd : decide ((a : Int) < (b.length : Int)) = true := by simp; omega
      go_enter Try.func50, Try.ntmps50
      go_wp2
      go_quiet (fail)
      go_wp2
      go_ret
      refine ⟨?_, ⟨rfl, rfl, rfl, rfl⟩⟩
      unfold Form.done; rw [if_pos ⟨rfl, h1⟩]; rfl
    · have hd : decide ((a : Int) < (b.length : Int)) = false := by simp; omega
      go_enter Try.func50, Try.ntmps50
      go_wp2
      go_quiet (fail)
      go_wp2
      go_ret
      refine ⟨?_, ⟨rfl, rfl, rfl, rfl⟩⟩
      unfold Form.done; rw [if_neg (fun h => h1 h.2)]; rfl
  · have hd : decide (e = 0) = false := by simp [h0]
    have hd' : (e == 0) = false := by simp [h0]
    have H0 := Lib.hid h0
    clear h0
    go_enter Try.func50, Try.ntmps50
    go_wp2
    go_quiet (fail)
    go_wp2
    go_ret
    refine ⟨?_, ⟨rfl, rfl, rfl, rfl⟩⟩
    unfold Form.done; rw [if_neg (fun h => H0.out h.1)]; rfl

end Go.Proofs.Ytoflehlkacofjaa
/- Walks of wire.Text and of the law WirePrefix. -/
namespace Go.Proofs.Ytoflehlkacofjaa
open Go.ChangeShapes Go.WideShapes Go.ChangeAt Go.RowKit
set_option linter.unusedVariables false
namespace Form
end Form
theorem drewN_same (w : World) (k : Nat) : RegT.Same w (w.drewN k) := ⟨rfl, rfl, rfl, rfl⟩

end Go.Proofs.Ytoflehlkacofjaa
/- Walks of the laws' lent and kept, and of wire.Flag. -/
namespace Go.Proofs.Ytoflehlkacofjaa
open Go.ChangeShapes Go.WideShapes Go.ChangeAt Go.RowKit
set_option linter.unusedVariables false
/-- A row of these bytes, and behind it one more, that is marked. -/
def Marked (base : Nat) (l : List UInt8) (v : Value) (w : World) : Prop := ∃ g c, v = .slice (some ⟨g, 0, none⟩) l.length c ∧ OB w base 5 (.slice (some ⟨g, 0, none⟩) (l.length + 1) c) (l ++ [77])
theorem Marked.keeps {base : Nat} {l : List UInt8} {v : Value} {x y : World} (h : Marked base l v x) (hk : Keeps x y) : Marked base l v y := by
  obtain ⟨g, c, e, h⟩ := h
  exact ⟨g, c, e, h.keeps hk⟩
theorem Marked.rd {base : Nat} {l : List UInt8} {v : Value} {w : World} (h : Marked base l v w) : RdB w v l := by
  obtain ⟨g, c, rfl, h⟩ := h
  rw [show l.length + 1 = (l ++ [77]).length by simp] at h
  obtain ⟨p', cap, e, hp⟩ := h.rd
  cases e
  have := hp.take l.length
  rw [List.take_left] at this
  exact ⟨_, _, rfl, this⟩

end Go.Proofs.Ytoflehlkacofjaa
/- Walks of the document's forms (numbers, whole numbers, flags, texts), of wire.Flag and of the law's own. -/
namespace Go.Proofs.Ytoflehlkacofjaa
open Go.ChangeShapes Go.WideShapes Go.ChangeAt Go.RowKit
set_option linter.unusedVariables false
theorem ob_one (w : World) (x : Nat) (hx : x < 256) (base : Nat) (hb : base ≤ w.heap.size) : OB (w.alloc (.cells #[.int .u8 (x : Int)] 5)) base 5 (.slice (some ⟨w.heap.size, 0, none⟩) 1 1) [UInt8.ofNat x] := by
  have h := World.ownsRow_lit (e := 5) (size := 1) w #[.int .u8 (x : Int)] 1 hb (by unfold maxLen; omega) rfl
  unfold OB
  have e : [UInt8.ofNat x].map vb = #[Value.int .u8 (x : Int)].toList := by
    simp only [List.map_cons, List.map_nil, vb, Form.byte_lt _ hx]
  rw [e]
  exact h

set_option maxRecDepth 100000 in
theorem refnat_w : ∀ (n : Nat) (w : World), n < 2 ^ 64 →
    Calls Try.prog 51 #[.int .u64 (n : Int)] w fun e w' => ∃ p k c, e = .returned (.slice p k c) ∧ OB w' w.heap.size 5 (.slice p k c) (Form.nat n) ∧ k = (Form.nat n).length ∧ Below w.heap.size w w' := by
  intro n
  induction n using Nat.strongRecOn with
  | _ n ih =>
    intro w hn
    by_cases h : n < 128
    · have hw8 : IntKind.u8.wrap (n : Int) = (n : Int) := IntWalk.u8_in _ (by omega)
      have Hfin := Lib.hid (ob_one w n (by omega) w.heap.size (Nat.le_refl _))
      have He := Lib.hid (Form.nat_small h)
      clear ih
      go_enter Try.func51, Try.ntmps51
      go_wp2
      go_ret
      refine ⟨_, _, _, rfl, ?_, ?_, (Below.refl _ _).alloc (Nat.le_refl _) _⟩
      · rw [He.out]; exact Hfin.out
      · rw [He.out]; rfl
    · obtain ⟨q, hq⟩ : ∃ q, q = n / 128 := ⟨_, rfl⟩
      obtain ⟨r, hr⟩ : ∃ r, r = n % 128 := ⟨_, rfl⟩
      have e1 : (n : Int) / 128 = (q : Int) := by omega
      have e4 : (n : Int) % 128 + 128 = ((r + 128 : Nat) : Int) := by omega
      have he := Form.nat_big h
      rw [← hq, ← hr] at he
      have hc := (ih q (by omega) (w.alloc (.cells #[.int .u8 ((r + 128 : Nat) : Int)] 5)) (by omega))
      have h1 := (ob_one w (r + 128) (by omega) w.heap.size (Nat.le_refl _))
      have h10 := Form.nat_len10 (n := q) (by omega)
      have H10 := Lib.hid h10
      obtain ⟨r8, hr8⟩ : ∃ r8, r8 = r + 128 := ⟨_, rfl⟩
      rw [← hr8] at e4 he hc h1
      have He := Lib.hid he
      have Hc := Lib.hid hc
      have H1 := Lib.hid h1
      clear ih h10 hq hr hr8 he hc h1
      go_enter Try.func51, Try.ntmps51
      go_wp2_with (first
        | (go_at_call 51; with_reducible refine (Hc.out).mono ?_; rintro e w1 ⟨p, k, c, rfl, ho, hk, hB⟩; have Hr := Lib.hid ho.rd; have HA := Lib.hid (H1.out.below hB); have HB := Lib.hid (((Below.refl w.heap.size w).alloc (Nat.le_refl _) _).trans (hB.mono (by simp))); clear ho hk hB)
        | (refine wpList_append_bytes rfl (.tmp 12) (.tmp 15) 39 rfl hel rfl HA.out rfl Hr.out (by have := H10.out; simp; omega) HB.out.size ?_; intro p1 n1 c1 w2 hn1 ho1 hg1; have Hn1 := Lib.hid hn1; have Ho1 := Lib.hid ho1; have HB1 := Lib.hid (HB.out.trans (below_own HA.out hg1 HB.out.size)); clear hn1 ho1 hg1))
      go_ret
      refine ⟨_, _, _, rfl, ?_, ?_, HB1.out⟩
      · rw [He.out]; exact Ho1.out
      · rw [He.out]; exact Hn1.out

set_option maxRecDepth 100000 in
theorem refint_w (i : Int) (w : World) (h1 : -9223372036854775808 ≤ i) (h2 : i ≤ 9223372036854775807) :
    Calls Try.prog 52 #[.int .i64 i] w fun e w' => ∃ p k c, e = .returned (.slice p k c) ∧ OB w' w.heap.size 5 (.slice p k c) (Form.nat (Form.fold i)) ∧ k = (Form.nat (Form.fold i)).length ∧ Below w.heap.size w w' := by
  have Hc := Lib.hid (refnat_w (Form.fold i) w (Form.fold_lt h1 h2))
  obtain ⟨n, hn⟩ : ∃ n, Form.fold i = n := ⟨_, rfl⟩
  rw [hn] at Hc ⊢
  by_cases h0 : 0 ≤ i
  · have e1 : IntKind.u64.wrap i = i := IntWalk.u64_in _ (by omega)
    have e2 : 2 * i = (n : Int) := by rw [← hn]; unfold Form.fold; rw [if_pos h0]; omega
    have e3 : IntKind.u64.wrap (2 * i) = (n : Int) := by rw [IntWalk.u64_in _ (by omega)]; exact e2
    clear hn
    go_enter Try.func52, Try.ntmps52
    go_wp2_with (go_at_call 51; with_reducible refine (Hc.out).mono ?_; rintro e w1 ⟨p, k, c, rfl, ho⟩; have Ho := Lib.hid ho; clear ho)
    go_ret
    exact ⟨_, _, _, rfl, Ho.out⟩
  · have e1 : IntKind.u64.wrap (-(i + 1)) = -(i + 1) := IntWalk.u64_in _ (by omega)
    have e2 : 2 * (-(i + 1)) + 1 = (n : Int) := by rw [← hn]; unfold Form.fold; rw [if_neg h0]; omega
    clear hn
    go_enter Try.func52, Try.ntmps52
    go_wp2_with (go_at_call 51; with_reducible refine (Hc.out).mono ?_; rintro e w1 ⟨p, k, c, rfl, ho⟩; have Ho := Lib.hid ho; clear ho)
    go_ret
    exact ⟨_, _, _, rfl, Ho.out⟩

def Form.flag (f : Bool) : List UInt8 := [if f then 1 else 0]
set_option maxRecDepth 100000 in
theorem refflag_w (f : Bool) (w : World) :
    Calls Try.prog 64 #[.bool f] w fun e w' => ∃ p k c, e = .returned (.slice p k c) ∧ OB w' w.heap.size 5 (.slice p k c) (Form.flag f) ∧ k = (Form.flag f).length ∧ Below w.heap.size w w' := by
  have H1 := Lib.hid (ob_one w 1 (by decide) w.heap.size (Nat.le_refl _))
  have H0 := Lib.hid (ob_one w 0 (by decide) w.heap.size (Nat.le_refl _))
  cases f
  · go_enter Try.func64, Try.ntmps64
    go_wp2
    go_ret
    exact ⟨_, _, _, rfl, H0.out, rfl, (Below.refl _ _).alloc (Nat.le_refl _) _⟩
  · go_enter Try.func64, Try.ntmps64
    go_wp2
    go_ret
    exact ⟨_, _, _, rfl, H1.out, rfl, (Below.refl _ _).alloc (Nat.le_refl _) _⟩

end Go.Proofs.Ytoflehlkacofjaa
/- Walk of the law WireWrites. -/
namespace Go.Proofs.Ytoflehlkacofjaa
open Go.ChangeShapes Go.WideShapes Go.ChangeAt Go.RowKit
set_option linter.unusedVariables false
theorem ownsRow_mono_base {w : World} {B base : Nat} {e : TypeId} {v : Value} {l : List UInt8} (h : OB w base e v l) (hB : B ≤ base) : OB w B e v l := by
  refine ⟨h.1, ?_⟩
  rcases h.2 with h2 | ⟨g, cap, cur, hv, hg, r⟩
  · exact .inl h2
  · exact .inr ⟨g, cap, cur, hv, Nat.le_trans hB hg, r⟩

end Go.Proofs.Ytoflehlkacofjaa
/- Walks of the document's reader: the number. -/
namespace Go.Proofs.Ytoflehlkacofjaa
open Go.ChangeShapes Go.WideShapes Go.ChangeAt Go.RowKit
set_option linter.unusedVariables false
/-- The document's reader lies at block g. -/
def RRd (w : World) (g : Nat) (T : TypeId) (v : Value) (e : Int) : Prop := w.heap[g]? = some (.cells #[v, .int .i64 e] T)
theorem RRd.lt {w : World} {g : Nat} {T : TypeId} {v : Value} {e : Int} (h : RRd w g T v e) : g < w.heap.size := (Array.getElem?_eq_some_iff.1 h).1
theorem RRd.cell0 {w : World} {g : Nat} {T : TypeId} {v : Value} {e : Int} (h : RRd w g T v e) : w.cell? ⟨g, 0, none⟩ = some v := by rw [cell_of_row _ _ _ _ _ _ h]; rfl
theorem RRd.cell1 {w : World} {g : Nat} {T : TypeId} {v : Value} {e : Int} (h : RRd w g T v e) : w.cell? ⟨g, 1, none⟩ = some (.int .i64 e) := by rw [cell_of_row _ _ _ _ _ _ h]; rfl
theorem RRd.frozen {w : World} {g : Nat} {T : TypeId} {v : Value} {e : Int} (h : RRd w g T v e) (i : Nat) : w.frozen? ⟨g, i, none⟩ = false := by
  unfold RRd at h
  simp [World.frozen?, h]
theorem RRd.set0 {w : World} {g : Nat} {T : TypeId} {v : Value} {e : Int} (h : RRd w g T v e) (v' : Value) : RRd (w.setCell ⟨g, 0, none⟩ v') g T v' e := by
  unfold RRd at *
  simp only [World.setCell, Array.getElem?_modify, h]; rfl
theorem RRd.set1 {w : World} {g : Nat} {T : TypeId} {v : Value} {e : Int} (h : RRd w g T v e) (e' : Int) : RRd (w.setCell ⟨g, 1, none⟩ (.int .i64 e')) g T v e' := by
  unfold RRd at *
  simp only [World.setCell, Array.getElem?_modify, h]; rfl

set_option maxRecDepth 100000 in
set_option maxHeartbeats 1600000 in
theorem refrd_w (g : Nat) (T : TypeId) (v : Value) (e : Int) (d : List UInt8) (w : World) (h : RRd w g T v e) (hb : RdB w v d) (hl : d.length ≤ 1000000) :
    Calls Try.prog 81 #[.pointer (some ⟨g, 0, none⟩)] w fun r w' => w = w' ∧ ∃ n c f : Nat, Form.rd 0 0 d = (n, c, f) ∧ r = .returned (.tuple #[.int .u64 (n : Int), .int .i64 (c : Int), .int .i64 (f : Int)]) := by
  obtain ⟨p, c, rfl, hp⟩ := hb
  have h0 := h.cell0
  have hle := Form.lead_le d
  have hrd := Form.rdR_eq d
  have hbig := fun k (hk : k < d.length) => hp.at hk
  have Hp := Lib.hid hp
  have Hbig := Lib.hid hbig
  have Hrd := Lib.hid hrd
  have Hle := Lib.hid hle
  clear h hp hbig hrd
  obtain ⟨K, hK⟩ : ∃ K, Form.lead d = K := ⟨_, rfl⟩
  have HK := Lib.hid hK
  rw [hK] at hle
  clear hK
  go_enter Try.func81, Try.ntmps81
  go_wp2
  go_loop [5] (fun i => ∃ k : Nat, k ≤ K ∧ i = .int .i64 (k : Int)) (fun i => d.length - (intOf i).toNat)
  case atStart => exact ⟨0, Nat.zero_le _, rfl⟩
  case round =>
    obtain ⟨k, hk, rfl⟩ := hrel
    by_cases hlt : k < K
    · obtain ⟨bq, oq, rfl, hbq, hcq⟩ := Hbig.out k (by omega)
      have hx := Form.lead_big d k (by rw [HK.out]; exact hlt)
      generalize (d.getD k 0).toNat = x at *
      have hkd : k < d.length := by omega
      have hx' : (128 : Int) ≤ (x : Int) := by omega
      go_wp2
      go_round
      case rel => exact ⟨k + 1, by omega, by go_num⟩
      case measure => simp [intOf]; omega
    · have hkK : k = K := by omega
      subst hkK
      by_cases hkd : k < d.length
      · have hne : d ≠ [] := by rintro rfl; simp at hkd
        obtain ⟨bq, oq, rfl, hcs⟩ := Hp.out.2.2.2 hne
        have hcq := hcs k hkd
        have Hcs := Lib.hid hcs
        have hx := Form.lead_end d (by rw [HK.out]; exact hkd)
        rw [HK.out] at hx
        have hf : Form.rd 0 0 d = if 9 < k ∨ (k = 9 ∧ 1 < (d.getD k 0).toNat) ∨ (0 < k ∧ (d.getD k 0).toNat = 0) then (0, 0, 5) else (Form.val (d.take (k + 1)), k + 1, 0) := by
          rw [← Hrd.out]; unfold Form.rdR; rw [HK.out, if_neg (by omega)]
          by_cases h9 : k = 9
          · rw [h9]
          · congr 1; apply propext; constructor <;> (intro h; rcases h with h | h | h) <;> omega
        have hv : (9 < k ∨ (k = 9 ∧ 1 < (d.getD k 0).toNat) ∨ (0 < k ∧ (d.getD k 0).toNat = 0)) ∨ Form.val (d.take (k + 1)) < 2 ^ 64 := by
          by_cases hb : 9 < k ∨ (k = 9 ∧ 1 < (d.getD k 0).toNat) ∨ (0 < k ∧ (d.getD k 0).toNat = 0)
          · exact .inl hb
          · refine .inr ?_
            rw [if_neg hb, ← Hrd.out] at hf
            have := Form.val_lt d (by rw [HK.out]; exact hf)
            rwa [HK.out] at this
        have Hf := Lib.hid hf
        have Hv := Lib.hid hv
        have hx0 : (0 : Int) ≤ ((d.getD k 0).toNat : Int) := Int.natCast_nonneg _
        generalize hxx : (d.getD k 0).toNat = x at *
        clear hf hv hcs hxx
        have hA : 9 < k ∨ (k = 9 ∧ (1 < x ∨ x = 0 ∨ x = 1)) ∨ (k < 9 ∧ 0 < k ∧ x = 0) ∨ (k < 9 ∧ 0 < k ∧ 0 < x) ∨ k = 0 := by omega
        rcases hA with h9 | ⟨rfl, h1 | rfl | rfl⟩ | ⟨h9, hk0, rfl⟩ | ⟨h9, hk0, hx1⟩ | rfl
        · go_wp2
          go_ret3
          exact ⟨rfl, 0, 0, 5, by rw [Hf.out, if_pos (.inl h9)], rfl⟩
        · go_wp2
          go_ret3
          exact ⟨rfl, 0, 0, 5, by rw [Hf.out, if_pos (by first | omega | (simp; done) | (simp; omega))], rfl⟩
        · go_wp2
          go_ret3
          exact ⟨rfl, 0, 0, 5, by rw [Hf.out, if_pos (by first | omega | (simp; done) | (simp; omega))], rfl⟩
        · have hgf : Form.rd 0 0 d = (Form.val (d.take (9 + 1)), 9 + 1, 0) := Hf.out.trans (if_neg (by first | omega | (simp; done) | (simp; omega)))
          have hgv : Form.val (d.take (9 + 1)) < 2 ^ 64 := Hv.out.resolve_left (by first | omega | (simp; done) | (simp; omega))
          have htl : (d.take (9 + 1)).length = 9 + 1 := by rw [List.length_take]; omega
          have htd : ∀ j, j < 9 + 1 → (d.take (9 + 1)).getD j 0 = d.getD j 0 := fun j hj => by simp only [List.getD, List.getElem?_take, hj, if_true]
          have Hgf := Lib.hid hgf
          generalize d.take (9 + 1) = t at *
          have Hgv := Lib.hid hgv
          have Htl := Lib.hid htl
          have Htd := Lib.hid htd
          clear hgf hgv htl htd Hf Hv
          go_wp2
          go_loop [6, 7] (fun n i => ∃ m : Nat, m ≤ 9 + 1 ∧ i = .int .i64 ((m : Int) - 1) ∧ n = .int .u64 ((Form.val (t.drop m) : Nat) : Int)) (fun _ i => (intOf i + 1).toNat)
          case atStart => exact ⟨9 + 1, Nat.le_refl _, by simp, by rw [List.drop_of_length_le (by rw [Htl.out]; omega)]; rfl⟩
          case round =>
            obtain ⟨m, hm, rfl, rfl⟩ := hrel
            cases m with
            | zero =>
              have e1 : ((0 : Nat) : Int) - 1 = -1 := by simp
              rw [e1, List.drop_zero]
              go_wp2
              go_ret3
              exact ⟨rfl, _, _, _, Hgf.out, rfl⟩
            | succ j =>
              have e1 : ((j + 1 : Nat) : Int) - 1 = (j : Int) := by omega
              rw [e1]
              have hcj := Hcs.out j (by omega)
              have hst := Form.val_step t j (by rw [Htl.out]; omega)
              have hle2 := Form.val_le t j
              rw [Htd.out j (by omega)] at hst
              have hxb := UInt8.toNat_lt (d.getD j 0)
              generalize (d.getD j 0).toNat = xj at *
              obtain ⟨r, hr⟩ : ∃ r, Form.val (t.drop j) = r := ⟨_, rfl⟩
              obtain ⟨q, hq⟩ : ∃ q, Form.val (t.drop (j + 1)) = q := ⟨_, rfl⟩
              have Hr := Lib.hid hr
              rw [hr] at hst hle2
              rw [hq] at hst ⊢
              obtain ⟨y, hy⟩ : ∃ y, y = xj % 128 := ⟨_, rfl⟩
              obtain ⟨z, hz⟩ : ∃ z, z = q * 128 := ⟨_, rfl⟩
              have hr64 := Hgv.out
              have e2 : (xj : Int) % 128 = (y : Int) := by omega
              have e3 : IntKind.u64.wrap ((q : Int) * 128) = (z : Int) := by rw [show (q : Int) * 128 = (z : Int) by omega]; exact IntWalk.u64_in _ (by omega)
              have e4 : IntKind.u64.wrap ((z : Int) + (y : Int)) = (r : Int) := by rw [show (z : Int) + (y : Int) = (r : Int) by omega]; exact IntWalk.u64_in _ (by omega)
              clear hst hle2 hr64 hy hz hq hr e1
              go_wp2
              go_round
              case rel => exact ⟨j, by omega, rfl, by rw [Hr.out]⟩
              case measure => simp [intOf]
        · go_wp2
          go_ret3
          exact ⟨rfl, 0, 0, 5, by rw [Hf.out, if_pos (by first | omega | (simp; done) | (simp; omega))], rfl⟩
        · have hgf : Form.rd 0 0 d = (Form.val (d.take (k + 1)), k + 1, 0) := Hf.out.trans (if_neg (by first | omega | (simp; done) | (simp; omega)))
          have hgv : Form.val (d.take (k + 1)) < 2 ^ 64 := Hv.out.resolve_left (by first | omega | (simp; done) | (simp; omega))
          have htl : (d.take (k + 1)).length = k + 1 := by rw [List.length_take]; omega
          have htd : ∀ j, j < k + 1 → (d.take (k + 1)).getD j 0 = d.getD j 0 := fun j hj => by simp only [List.getD, List.getElem?_take, hj, if_true]
          have Hgf := Lib.hid hgf
          generalize d.take (k + 1) = t at *
          have Hgv := Lib.hid hgv
          have Htl := Lib.hid htl
          have Htd := Lib.hid htd
          clear hgf hgv htl htd Hf Hv
          have hd9 : decide ((k : Int) = 9) = false := by simp; omega
          have hd9' : ((k : Int) == 9) = false := by simp; omega
          have hx2 : decide ((x : Int) = 0) = false := by simp; omega
          have hx2' : ((x : Int) == 0) = false := by simp; omega
          go_wp2
          go_loop [6, 7] (fun n i => ∃ m : Nat, m ≤ k + 1 ∧ i = .int .i64 ((m : Int) - 1) ∧ n = .int .u64 ((Form.val (t.drop m) : Nat) : Int)) (fun _ i => (intOf i + 1).toNat)
          case atStart => exact ⟨k + 1, Nat.le_refl _, by simp, by rw [List.drop_of_length_le (by rw [Htl.out]; omega)]; rfl⟩
          case round =>
            obtain ⟨m, hm, rfl, rfl⟩ := hrel
            cases m with
            | zero =>
              have e1 : ((0 : Nat) : Int) - 1 = -1 := by simp
              rw [e1, List.drop_zero]
              go_wp2
              go_ret3
              exact ⟨rfl, _, _, _, Hgf.out, rfl⟩
            | succ j =>
              have e1 : ((j + 1 : Nat) : Int) - 1 = (j : Int) := by omega
              rw [e1]
              have hcj := Hcs.out j (by omega)
              have hst := Form.val_step t j (by rw [Htl.out]; omega)
              have hle2 := Form.val_le t j
              rw [Htd.out j (by omega)] at hst
              have hxb := UInt8.toNat_lt (d.getD j 0)
              generalize (d.getD j 0).toNat = xj at *
              obtain ⟨r, hr⟩ : ∃ r, Form.val (t.drop j) = r := ⟨_, rfl⟩
              obtain ⟨q, hq⟩ : ∃ q, Form.val (t.drop (j + 1)) = q := ⟨_, rfl⟩
              have Hr := Lib.hid hr
              rw [hr] at hst hle2
              rw [hq] at hst ⊢
              obtain ⟨y, hy⟩ : ∃ y, y = xj % 128 := ⟨_, rfl⟩
              obtain ⟨z, hz⟩ : ∃ z, z = q * 128 := ⟨_, rfl⟩
              have hr64 := Hgv.out
              have e2 : (xj : Int) % 128 = (y : Int) := by omega
              have e3 : IntKind.u64.wrap ((q : Int) * 128) = (z : Int) := by rw [show (q : Int) * 128 = (z : Int) by omega]; exact IntWalk.u64_in _ (by omega)
              have e4 : IntKind.u64.wrap ((z : Int) + (y : Int)) = (r : Int) := by rw [show (z : Int) + (y : Int) = (r : Int) by omega]; exact IntWalk.u64_in _ (by omega)
              clear hst hle2 hr64 hy hz hq hr e1
              go_wp2
              go_round
              case rel => exact ⟨j, by omega, rfl, by rw [Hr.out]⟩
              case measure => simp [intOf]
        · have hgf : Form.rd 0 0 d = (Form.val (d.take (0 + 1)), 0 + 1, 0) := Hf.out.trans (if_neg (by first | omega | (simp; done) | (simp; omega)))
          have hgv : Form.val (d.take (0 + 1)) < 2 ^ 64 := Hv.out.resolve_left (by first | omega | (simp; done) | (simp; omega))
          have htl : (d.take (0 + 1)).length = 0 + 1 := by rw [List.length_take]; omega
          have htd : ∀ j, j < 0 + 1 → (d.take (0 + 1)).getD j 0 = d.getD j 0 := fun j hj => by simp only [List.getD, List.getElem?_take, hj, if_true]
          have Hgf := Lib.hid hgf
          generalize d.take (0 + 1) = t at *
          have Hgv := Lib.hid hgv
          have Htl := Lib.hid htl
          have Htd := Lib.hid htd
          clear hgf hgv htl htd Hf Hv
          rw [Nat.add_zero] at hcq
          go_wp2
          go_loop [6, 7] (fun n i => ∃ m : Nat, m ≤ 0 + 1 ∧ i = .int .i64 ((m : Int) - 1) ∧ n = .int .u64 ((Form.val (t.drop m) : Nat) : Int)) (fun _ i => (intOf i + 1).toNat)
          case atStart => exact ⟨0 + 1, Nat.le_refl _, by simp, by rw [List.drop_of_length_le (by rw [Htl.out]; omega)]; rfl⟩
          case round =>
            obtain ⟨m, hm, rfl, rfl⟩ := hrel
            cases m with
            | zero =>
              have e1 : ((0 : Nat) : Int) - 1 = -1 := by simp
              rw [e1, List.drop_zero]
              go_wp2
              go_ret3
              exact ⟨rfl, _, _, _, Hgf.out, rfl⟩
            | succ j =>
              have e1 : ((j + 1 : Nat) : Int) - 1 = (j : Int) := by omega
              rw [e1]
              have hcj := Hcs.out j (by omega)
              have hst := Form.val_step t j (by rw [Htl.out]; omega)
              have hle2 := Form.val_le t j
              rw [Htd.out j (by omega)] at hst
              have hxb := UInt8.toNat_lt (d.getD j 0)
              generalize (d.getD j 0).toNat = xj at *
              obtain ⟨r, hr⟩ : ∃ r, Form.val (t.drop j) = r := ⟨_, rfl⟩
              obtain ⟨q, hq⟩ : ∃ q, Form.val (t.drop (j + 1)) = q := ⟨_, rfl⟩
              have Hr := Lib.hid hr
              rw [hr] at hst hle2
              rw [hq] at hst ⊢
              obtain ⟨y, hy⟩ : ∃ y, y = xj % 128 := ⟨_, rfl⟩
              obtain ⟨z, hz⟩ : ∃ z, z = q * 128 := ⟨_, rfl⟩
              have hr64 := Hgv.out
              have e2 : (xj : Int) % 128 = (y : Int) := by omega
              have e3 : IntKind.u64.wrap ((q : Int) * 128) = (z : Int) := by rw [show (q : Int) * 128 = (z : Int) by omega]; exact IntWalk.u64_in _ (by omega)
              have e4 : IntKind.u64.wrap ((z : Int) + (y : Int)) = (r : Int) := by rw [show (z : Int) + (y : Int) = (r : Int) by omega]; exact IntWalk.u64_in _ (by omega)
              clear hst hle2 hr64 hy hz hq hr e1
              go_wp2
              go_round
              case rel => exact ⟨j, by omega, rfl, by rw [Hr.out]⟩
              case measure => simp [intOf]
      · have hkd2 : k = d.length := by omega
        have hf : Form.rd 0 0 d = if 10 ≤ k then (0, 0, 5) else (0, 0, 4) := by
          rw [← Hrd.out]; unfold Form.rdR; rw [HK.out, if_pos (by omega)]
        have Hf := Lib.hid hf
        have hq : decide ((k : Int) < (d.length : Int)) = false := by simp; omega
        have hq2 : decide ((d.length : Int) ≤ (k : Int)) = true := by simp; omega
        clear hf hkd2
        by_cases h10 : 10 ≤ k
        · go_wp2
          go_ret3
          exact ⟨rfl, 0, 0, 5, by rw [Hf.out, if_pos h10], rfl⟩
        · go_wp2
          go_ret3
          exact ⟨rfl, 0, 0, 4, by rw [Hf.out, if_neg h10], rfl⟩

theorem RdB.dropped {w : World} {p : Option Addr} {c : Nat} {l : List UInt8} (h : RdB w (.slice p l.length c) l) (a : Nat) (ha : a ≤ l.length) : RdB w (.slice (if c = a then p else p.map (·.add (a * 1))) (l.length - a) (c - a)) (l.drop a) := by
  obtain ⟨p', c', e, hp⟩ := h
  cases e
  exact ⟨_, _, by rw [List.length_drop], hp.drop a ha⟩

end Go.Proofs.Ytoflehlkacofjaa
