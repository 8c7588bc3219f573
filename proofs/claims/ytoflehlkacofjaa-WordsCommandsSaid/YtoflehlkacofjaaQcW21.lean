/- Walk of the law WireBack. -/
import Derived.Test.YtoflehlkacofjaaQcW19
import Derived.Deep.RegionWith
import Derived.Lib.SmallJoins
namespace Go.Proofs.Ytoflehlkacofjaa
open Go.ChangeShapes Go.WideShapes Go.ChangeAt Go.RowKit Go.Deep
set_option linter.unusedVariables false
namespace Form
def u64 (n : Int) : Nat := (n % 18446744073709551616).toNat
theorem u64_wrap (n : Int) : IntKind.u64.wrap n = (u64 n : Int) := by rw [IntKind.wrap_u64]; unfold u64; omega
theorem u64_lt (n : Int) : u64 n < 2 ^ 64 := by unfold u64; omega
theorem rd_back (F rest : List UInt8) (n a : Nat) (hn : n < 2 ^ 64) (h : F.drop a = nat n ++ rest) : rd 0 0 (F.drop a) = (n, (nat n).length, 0) := by
  rw [h, rd_nat n 0 0 rest (by rw [Nat.pow_zero, Nat.mul_one]; exact hn) (fun h => absurd h (Nat.lt_irrefl _))]
  simp
end Form
end Go.Proofs.Ytoflehlkacofjaa
