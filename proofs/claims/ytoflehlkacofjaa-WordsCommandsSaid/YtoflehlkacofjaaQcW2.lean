/- Walks of folded and wire.Int. -/
import Derived.Test.YtoflehlkacofjaaQcW1
namespace Go.Proofs.Ytoflehlkacofjaa
open Go.ChangeShapes Go.WideShapes Go.ChangeAt Go.RowKit
set_option linter.unusedVariables false
theorem xor_u64 (a b : Nat) (ha : a < 2 ^ 64) (hb : b < 2 ^ 64) : bits .xor .u64 (a : Int) (b : Int) = ((a ^^^ b : Nat) : Int) := by
  have e : bits .xor .u64 (a : Int) (b : Int) = IntKind.u64.wrap (((BitVec.ofInt 64 a ^^^ BitVec.ofInt 64 b : BitVec 64).toNat : Nat) : Int) := rfl
  rw [e, BitVec.toNat_xor, BitVec.ofInt_natCast, BitVec.ofInt_natCast, BitVec.toNat_ofNat, BitVec.toNat_ofNat, Nat.mod_eq_of_lt ha, Nat.mod_eq_of_lt hb]
  have := Nat.xor_lt_two_pow ha hb
  rw [IntKind.wrap_u64]; omega
theorem xor_ones (a : Nat) (ha : a < 2 ^ 64) : a ^^^ 18446744073709551615 = 18446744073709551615 - a := by
  have h := BitVec.toNat_not (x := BitVec.ofNat 64 a)
  have h2 : (~~~(BitVec.ofNat 64 a)) = BitVec.ofNat 64 a ^^^ BitVec.allOnes 64 := by rw [BitVec.xor_allOnes]
  rw [h2, BitVec.toNat_xor, BitVec.toNat_ofNat, BitVec.toNat_allOnes, Nat.mod_eq_of_lt ha] at h
  exact h

set_option maxRecDepth 100000 in
theorem folded_w (i : Int) (w : World) (h1 : -9223372036854775808 ≤ i) (h2 : i ≤ 9223372036854775807) :
    Calls Try.prog 71 #[.int .i64 i] w fun e w' => e = .returned (.int .u64 (Form.fold i : Nat)) ∧ w' = w := by
  obtain ⟨n, hn⟩ : ∃ n, Form.fold i = n := ⟨_, rfl⟩
  rw [hn]
  by_cases h0 : 0 ≤ i
  · obtain ⟨m, rfl⟩ : ∃ m : Nat, i = (m : Int) := ⟨i.toNat, by omega⟩
    have e1 : IntKind.u64.wrap (m : Int) = (m : Int) := IntWalk.u64_in _ (by omega)
    have e2 : (m : Int) / 9223372036854775808 = 0 := by omega
    have e3 : n = 2 * m := by rw [← hn]; unfold Form.fold; rw [if_pos (by omega)]; omega
    have e4 : IntKind.u64.wrap ((m : Int) * 2) = (n : Int) := by rw [IntKind.wrap_u64]; omega
    have e5 : bits .xor .u64 (n : Int) 0 = (n : Int) := by have := xor_u64 n 0 (by omega) (by omega); rwa [Nat.xor_zero] at this
    have e6 : IntKind.u64.wrap 0 = 0 := by decide
    clear hn e3
    go_enter Try.func71, Try.ntmps71
    go_wp2
    go_ret
    exact ⟨rfl, rfl⟩
  · have e1 : IntKind.u64.wrap i = i + 18446744073709551616 := by rw [IntKind.wrap_u64]; omega
    have e2 : i / 9223372036854775808 = -1 := by omega
    obtain ⟨q, hq⟩ : ∃ q : Nat, (q : Int) = 2 * i + 18446744073709551616 := ⟨(2 * i + 18446744073709551616).toNat, by omega⟩
    have e3 : n = 18446744073709551615 - q := by rw [← hn]; unfold Form.fold; rw [if_neg (by omega)]; omega
    have e4 : IntKind.u64.wrap ((i + 18446744073709551616) * 2) = (q : Int) := by rw [IntKind.wrap_u64]; omega
    have e5 : bits .xor .u64 (q : Int) 18446744073709551615 = (n : Int) := by
      have := xor_u64 q 18446744073709551615 (by omega) (by omega)
      rw [xor_ones q (by omega), ← e3] at this
      exact this
    have e6 : IntKind.u64.wrap (-1) = 18446744073709551615 := by decide
    clear hn e3 hq
    go_enter Try.func71, Try.ntmps71
    go_wp2
    go_ret
    exact ⟨rfl, rfl⟩

end Go.Proofs.Ytoflehlkacofjaa
