/-
  No cell of these rows narrows 'for every input' (looked for: loops, veiled, ifaces, maps, wideKeys, modest, calm, conditions, laid).
  DERIVED. THE GIVEN ROWS OF THIS SEAT. 12 by the template 'for every input the law returns true; each argument reads behind the call as it read before'; 0 by the template 'total and deterministic' (their statements: YtpbdnndpdidagaaTotals.lean).
  GIVEN WITH THE SEED: the statements are not yours to turn. If you find one false, say at which input.
  Laid BY PROGRAM, IN A SANDBOX (cutbox-rows.mjs): the forced cells as the released guide's own fill.sh prints them over the translation b4eb515a58c791e9… (all of the seat's roots in one cut). By AI agents, Wed Nov 11 2026. No macro, syntax, notation, axiom, sorry.
-/
import Derived.Test.YtpbdnndpdidagaaChecked
import GoSem.Claim
import GoSem.ClaimJoined
import GoSem.ClaimMapViews
import Derived.JoinedTies
import Derived.KernelRfl
namespace Go.Proofs.Ytpbdnndpdidagaa
/- THE CELL 'sum', in the pinned program and in every row, IS THE sha256 OF THE DUMP (.gsa) THAT YtpbdnndpdidagaaProg.lean LOADS. Nothing in Lean hashes anything: it is a label: what it is worth is what the hold of that sum in a sandbox is worth. -/
noncomputable def Try.pinned : Pinned := { name := "ytpbdnndpdidagaa", sum := "b4eb515a58c791e9b6cc57eae1ebe3594338a2f291e8d67c665d537adc7dd0e5", checked := Try.checked }
namespace Rows
def none {H : Type} : Left H := { results := [], args := [] }

/-- 'broadsidelaw02.WireOrder': WHATEVER THE INPUT: true; the input reads as it did. -/
def wireOrderSpec : ChangeSpec := { name := "wireOrder", fn := fun _ => fun
  | [d1, d2, d3, d4] => { results := [.lit (.bool true)], args := [d1, d2, d3, d4] }
  | _ => none }
def wireOrderRow : OpenClaim := { program := "ytpbdnndpdidagaa", sum := "b4eb515a58c791e9b6cc57eae1ebe3594338a2f291e8d67c665d537adc7dd0e5", func := "broadside/broadsidelaw02.WireOrder", spec := "wireOrder", unfollowed := true, recurses := true, apart := false }
def WireOrderSaid : Prop := wireOrderRow.holds Try.pinned (OpenSpec.ofChange wireOrderSpec)

/-- ITS FALSE NEIGHBOUR: 'it returns false'. Refute it at one input. -/
def wireOrderWrong : ChangeSpec := { name := "wireOrder", fn := fun _ => fun
  | [d1, d2, d3, d4] => { results := [.lit (.bool false)], args := [d1, d2, d3, d4] }
  | _ => none }
def WireOrderWrongFalsely : Prop := wireOrderRow.holds Try.pinned (OpenSpec.ofChange wireOrderWrong)

/-- 'broadsidelaw02.WirePrefix': WHATEVER THE INPUT: true; the input reads as it did. -/
def wirePrefixSpec : ChangeSpec := { name := "wirePrefix", fn := fun _ => fun
  | [d1, d2, d3, d4] => { results := [.lit (.bool true)], args := [d1, d2, d3, d4] }
  | _ => none }
def wirePrefixRow : OpenClaim := { program := "ytpbdnndpdidagaa", sum := "b4eb515a58c791e9b6cc57eae1ebe3594338a2f291e8d67c665d537adc7dd0e5", func := "broadside/broadsidelaw02.WirePrefix", spec := "wirePrefix", unfollowed := true, recurses := true, apart := false }
def WirePrefixSaid : Prop := wirePrefixRow.holds Try.pinned (OpenSpec.ofChange wirePrefixSpec)

/-- ITS FALSE NEIGHBOUR: 'it returns false'. Refute it at one input. -/
def wirePrefixWrong : ChangeSpec := { name := "wirePrefix", fn := fun _ => fun
  | [d1, d2, d3, d4] => { results := [.lit (.bool false)], args := [d1, d2, d3, d4] }
  | _ => none }
def WirePrefixWrongFalsely : Prop := wirePrefixRow.holds Try.pinned (OpenSpec.ofChange wirePrefixWrong)

/-- 'broadsidelaw02.WireWrites': WHATEVER THE INPUT: true; the input reads as it did. -/
def wireWritesSpec : ChangeSpec := { name := "wireWrites", fn := fun _ => fun
  | [d1, d2, d3, d4, d5] => { results := [.lit (.bool true)], args := [d1, d2, d3, d4, d5] }
  | _ => none }
def wireWritesRow : OpenClaim := { program := "ytpbdnndpdidagaa", sum := "b4eb515a58c791e9b6cc57eae1ebe3594338a2f291e8d67c665d537adc7dd0e5", func := "broadside/broadsidelaw02.WireWrites", spec := "wireWrites", unfollowed := true, recurses := true, apart := false }
def WireWritesSaid : Prop := wireWritesRow.holds Try.pinned (OpenSpec.ofChange wireWritesSpec)

/-- ITS FALSE NEIGHBOUR: 'it returns false'. Refute it at one input. -/
def wireWritesWrong : ChangeSpec := { name := "wireWrites", fn := fun _ => fun
  | [d1, d2, d3, d4, d5] => { results := [.lit (.bool false)], args := [d1, d2, d3, d4, d5] }
  | _ => none }
def WireWritesWrongFalsely : Prop := wireWritesRow.holds Try.pinned (OpenSpec.ofChange wireWritesWrong)

/-- 'broadsidelaw02.WireOnly': WHATEVER THE INPUT: true; the input reads as it did. -/
def wireOnlySpec : ChangeSpec := { name := "wireOnly", fn := fun _ => fun
  | [d] => { results := [.lit (.bool true)], args := [d] }
  | _ => none }
def wireOnlyRow : OpenClaim := { program := "ytpbdnndpdidagaa", sum := "b4eb515a58c791e9b6cc57eae1ebe3594338a2f291e8d67c665d537adc7dd0e5", func := "broadside/broadsidelaw02.WireOnly", spec := "wireOnly", unfollowed := true, recurses := true, apart := false }
def WireOnlySaid : Prop := wireOnlyRow.holds Try.pinned (OpenSpec.ofChange wireOnlySpec)

/-- ITS FALSE NEIGHBOUR: 'it returns false'. Refute it at one input. -/
def wireOnlyWrong : ChangeSpec := { name := "wireOnly", fn := fun _ => fun
  | [d] => { results := [.lit (.bool false)], args := [d] }
  | _ => none }
def WireOnlyWrongFalsely : Prop := wireOnlyRow.holds Try.pinned (OpenSpec.ofChange wireOnlyWrong)

/-- 'broadsidelaw02.WireReads': WHATEVER THE INPUT: true; the input reads as it did. -/
def wireReadsSpec : ChangeSpec := { name := "wireReads", fn := fun _ => fun
  | [d1, d2] => { results := [.lit (.bool true)], args := [d1, d2] }
  | _ => none }
def wireReadsRow : OpenClaim := { program := "ytpbdnndpdidagaa", sum := "b4eb515a58c791e9b6cc57eae1ebe3594338a2f291e8d67c665d537adc7dd0e5", func := "broadside/broadsidelaw02.WireReads", spec := "wireReads", apart := false }
def WireReadsSaid : Prop := wireReadsRow.holds Try.pinned (OpenSpec.ofChange wireReadsSpec)

/-- ITS FALSE NEIGHBOUR: 'it returns false'. Refute it at one input. -/
def wireReadsWrong : ChangeSpec := { name := "wireReads", fn := fun _ => fun
  | [d1, d2] => { results := [.lit (.bool false)], args := [d1, d2] }
  | _ => none }
def WireReadsWrongFalsely : Prop := wireReadsRow.holds Try.pinned (OpenSpec.ofChange wireReadsWrong)

/-- 'broadsidelaw02.WireNone': WHATEVER THE INPUT: true; the input reads as it did. -/
def wireNoneSpec : ChangeSpec := { name := "wireNone", fn := fun _ => fun
  | [d1, d2, d3] => { results := [.lit (.bool true)], args := [d1, d2, d3] }
  | _ => none }
def wireNoneRow : OpenClaim := { program := "ytpbdnndpdidagaa", sum := "b4eb515a58c791e9b6cc57eae1ebe3594338a2f291e8d67c665d537adc7dd0e5", func := "broadside/broadsidelaw02.WireNone", spec := "wireNone", apart := false }
def WireNoneSaid : Prop := wireNoneRow.holds Try.pinned (OpenSpec.ofChange wireNoneSpec)

/-- ITS FALSE NEIGHBOUR: 'it returns false'. Refute it at one input. -/
def wireNoneWrong : ChangeSpec := { name := "wireNone", fn := fun _ => fun
  | [d1, d2, d3] => { results := [.lit (.bool false)], args := [d1, d2, d3] }
  | _ => none }
def WireNoneWrongFalsely : Prop := wireNoneRow.holds Try.pinned (OpenSpec.ofChange wireNoneWrong)

/-- 'broadsidelaw02.WireBack': WHATEVER THE INPUT: true; the input reads as it did. -/
def wireBackSpec : ChangeSpec := { name := "wireBack", fn := fun _ => fun
  | [d] => { results := [.lit (.bool true)], args := [d] }
  | _ => none }
def wireBackRow : OpenClaim := { program := "ytpbdnndpdidagaa", sum := "b4eb515a58c791e9b6cc57eae1ebe3594338a2f291e8d67c665d537adc7dd0e5", func := "broadside/broadsidelaw02.WireBack", spec := "wireBack", apart := false }
def WireBackSaid : Prop := wireBackRow.holds Try.pinned (OpenSpec.ofChange wireBackSpec)

/-- ITS FALSE NEIGHBOUR: 'it returns false'. Refute it at one input. -/
def wireBackWrong : ChangeSpec := { name := "wireBack", fn := fun _ => fun
  | [d] => { results := [.lit (.bool false)], args := [d] }
  | _ => none }
def WireBackWrongFalsely : Prop := wireBackRow.holds Try.pinned (OpenSpec.ofChange wireBackWrong)

/-- 'broadsidelaw04.SpecWrites': WHATEVER THE INPUT: true; the input reads as it did. -/
def specWritesSpec : ChangeSpec := { name := "specWrites", fn := fun _ => fun
  | [d1, d2] => { results := [.lit (.bool true)], args := [d1, d2] }
  | _ => none }
def specWritesRow : OpenClaim := { program := "ytpbdnndpdidagaa", sum := "b4eb515a58c791e9b6cc57eae1ebe3594338a2f291e8d67c665d537adc7dd0e5", func := "broadside/broadsidelaw04.SpecWrites", spec := "specWrites", recurses := true, apart := false }
def SpecWritesSaid : Prop := specWritesRow.holds Try.pinned (OpenSpec.ofChange specWritesSpec)

/-- ITS FALSE NEIGHBOUR: 'it returns false'. Refute it at one input. -/
def specWritesWrong : ChangeSpec := { name := "specWrites", fn := fun _ => fun
  | [d1, d2] => { results := [.lit (.bool false)], args := [d1, d2] }
  | _ => none }
def SpecWritesWrongFalsely : Prop := specWritesRow.holds Try.pinned (OpenSpec.ofChange specWritesWrong)

/-- 'broadsidelaw04.SpecBack': WHATEVER THE INPUT: true; the input reads as it did. -/
def specBackSpec : ChangeSpec := { name := "specBack", fn := fun _ => fun
  | [d1, d2] => { results := [.lit (.bool true)], args := [d1, d2] }
  | _ => none }
def specBackRow : OpenClaim := { program := "ytpbdnndpdidagaa", sum := "b4eb515a58c791e9b6cc57eae1ebe3594338a2f291e8d67c665d537adc7dd0e5", func := "broadside/broadsidelaw04.SpecBack", spec := "specBack", apart := false }
def SpecBackSaid : Prop := specBackRow.holds Try.pinned (OpenSpec.ofChange specBackSpec)

/-- ITS FALSE NEIGHBOUR: 'it returns false'. Refute it at one input. -/
def specBackWrong : ChangeSpec := { name := "specBack", fn := fun _ => fun
  | [d1, d2] => { results := [.lit (.bool false)], args := [d1, d2] }
  | _ => none }
def SpecBackWrongFalsely : Prop := specBackRow.holds Try.pinned (OpenSpec.ofChange specBackWrong)

/-- 'broadsidelaw04.SpecMultiples': WHATEVER THE INPUT: true; the input reads as it did. -/
def specMultiplesSpec : ChangeSpec := { name := "specMultiples", fn := fun _ => fun
  | [d1, d2, d3] => { results := [.lit (.bool true)], args := [d1, d2, d3] }
  | _ => none }
def specMultiplesRow : OpenClaim := { program := "ytpbdnndpdidagaa", sum := "b4eb515a58c791e9b6cc57eae1ebe3594338a2f291e8d67c665d537adc7dd0e5", func := "broadside/broadsidelaw04.SpecMultiples", spec := "specMultiples", apart := false }
def SpecMultiplesSaid : Prop := specMultiplesRow.holds Try.pinned (OpenSpec.ofChange specMultiplesSpec)

/-- ITS FALSE NEIGHBOUR: 'it returns false'. Refute it at one input. -/
def specMultiplesWrong : ChangeSpec := { name := "specMultiples", fn := fun _ => fun
  | [d1, d2, d3] => { results := [.lit (.bool false)], args := [d1, d2, d3] }
  | _ => none }
def SpecMultiplesWrongFalsely : Prop := specMultiplesRow.holds Try.pinned (OpenSpec.ofChange specMultiplesWrong)

/-- 'broadsidelaw04.SpecBands': WHATEVER THE INPUT: true; the input reads as it did. -/
def specBandsSpec : ChangeSpec := { name := "specBands", fn := fun _ => fun
  | [d1, d2, d3] => { results := [.lit (.bool true)], args := [d1, d2, d3] }
  | _ => none }
def specBandsRow : OpenClaim := { program := "ytpbdnndpdidagaa", sum := "b4eb515a58c791e9b6cc57eae1ebe3594338a2f291e8d67c665d537adc7dd0e5", func := "broadside/broadsidelaw04.SpecBands", spec := "specBands", apart := false }
def SpecBandsSaid : Prop := specBandsRow.holds Try.pinned (OpenSpec.ofChange specBandsSpec)

/-- ITS FALSE NEIGHBOUR: 'it returns false'. Refute it at one input. -/
def specBandsWrong : ChangeSpec := { name := "specBands", fn := fun _ => fun
  | [d1, d2, d3] => { results := [.lit (.bool false)], args := [d1, d2, d3] }
  | _ => none }
def SpecBandsWrongFalsely : Prop := specBandsRow.holds Try.pinned (OpenSpec.ofChange specBandsWrong)

/-- 'broadsidelaw04.SpecMay': WHATEVER THE INPUT: true; the input reads as it did. -/
def specMaySpec : ChangeSpec := { name := "specMay", fn := fun _ => fun
  | [d1, d2, d3] => { results := [.lit (.bool true)], args := [d1, d2, d3] }
  | _ => none }
def specMayRow : OpenClaim := { program := "ytpbdnndpdidagaa", sum := "b4eb515a58c791e9b6cc57eae1ebe3594338a2f291e8d67c665d537adc7dd0e5", func := "broadside/broadsidelaw04.SpecMay", spec := "specMay", apart := false }
def SpecMaySaid : Prop := specMayRow.holds Try.pinned (OpenSpec.ofChange specMaySpec)

/-- ITS FALSE NEIGHBOUR: 'it returns false'. Refute it at one input. -/
def specMayWrong : ChangeSpec := { name := "specMay", fn := fun _ => fun
  | [d1, d2, d3] => { results := [.lit (.bool false)], args := [d1, d2, d3] }
  | _ => none }
def SpecMayWrongFalsely : Prop := specMayRow.holds Try.pinned (OpenSpec.ofChange specMayWrong)

/- THE SECOND FORM. 'bulk': how many values and letters a reading holds, each counted each time it is reached (what is shared counts as often as it is met; a slice's spare places count too). A statement '..UptoSaid' is the law's where the arguments, and the package variables that the reading takes, are together of bulk at most 1048576: NARROWER than '..Said'. Prove '..Said' where nothing that the law and all that it calls make is longer than what came in: it says more and counts as full. Else prove '..UptoSaid'. A law counts once. -/
mutual
def uptoBulk {H : Type} : DataW H → Nat
  | .lit (.string bytes) => bytes.length + 1
  | .lit _ => 1
  | .nil => 1
  | .ptr d => uptoBulk d + 1
  | .slice elems spare => uptoBulkAll elems + uptoBulkAll spare + 1
  | .agg parts => uptoBulkAll parts + 1
  | .iface _ d => uptoBulk d + 1
  | .map entries => uptoBulkEntries entries + 1
  | .held _ => 1
def uptoBulkAll {H : Type} : List (DataW H) → Nat
  | [] => 0
  | d :: r => uptoBulk d + uptoBulkAll r
def uptoBulkEntries {H : Type} : List (Lit × DataW H) → Nat
  | [] => 0
  | x :: r => uptoBulkEntry x + uptoBulkEntries r
def uptoBulkEntry {H : Type} : Lit × DataW H → Nat
  | (.string bytes, d) => bytes.length + uptoBulk d + 1
  | (_, d) => uptoBulk d + 1
 end
def uptoSmall : (H : Type) → List (DataW H) → Bool := fun _ ds => decide (uptoBulkAll ds ≤ 1048576)
def OpenSpec.upto (s : _root_.Go.ChangeSpec) : _root_.Go.OpenSpec := { _root_.Go.OpenSpec.ofChange s with cond := some uptoSmall }

/-- 'broadsidelaw02.WireOrder', WHERE WHAT IT READS IS OF BULK AT MOST 1048576: true; the input reads as it did. -/
def wireOrderUptoRow : OpenClaim := { program := "ytpbdnndpdidagaa", sum := "b4eb515a58c791e9b6cc57eae1ebe3594338a2f291e8d67c665d537adc7dd0e5", func := "broadside/broadsidelaw02.WireOrder", spec := "wireOrder", unfollowed := true, recurses := true, apart := false, narrowed := true }
def WireOrderUptoSaid : Prop := wireOrderUptoRow.holds Try.pinned (OpenSpec.upto wireOrderSpec)

/-- 'broadsidelaw02.WirePrefix', WHERE WHAT IT READS IS OF BULK AT MOST 1048576: true; the input reads as it did. -/
def wirePrefixUptoRow : OpenClaim := { program := "ytpbdnndpdidagaa", sum := "b4eb515a58c791e9b6cc57eae1ebe3594338a2f291e8d67c665d537adc7dd0e5", func := "broadside/broadsidelaw02.WirePrefix", spec := "wirePrefix", unfollowed := true, recurses := true, apart := false, narrowed := true }
def WirePrefixUptoSaid : Prop := wirePrefixUptoRow.holds Try.pinned (OpenSpec.upto wirePrefixSpec)

/-- 'broadsidelaw02.WireWrites', WHERE WHAT IT READS IS OF BULK AT MOST 1048576: true; the input reads as it did. -/
def wireWritesUptoRow : OpenClaim := { program := "ytpbdnndpdidagaa", sum := "b4eb515a58c791e9b6cc57eae1ebe3594338a2f291e8d67c665d537adc7dd0e5", func := "broadside/broadsidelaw02.WireWrites", spec := "wireWrites", unfollowed := true, recurses := true, apart := false, narrowed := true }
def WireWritesUptoSaid : Prop := wireWritesUptoRow.holds Try.pinned (OpenSpec.upto wireWritesSpec)

/-- 'broadsidelaw02.WireOnly', WHERE WHAT IT READS IS OF BULK AT MOST 1048576: true; the input reads as it did. -/
def wireOnlyUptoRow : OpenClaim := { program := "ytpbdnndpdidagaa", sum := "b4eb515a58c791e9b6cc57eae1ebe3594338a2f291e8d67c665d537adc7dd0e5", func := "broadside/broadsidelaw02.WireOnly", spec := "wireOnly", unfollowed := true, recurses := true, apart := false, narrowed := true }
def WireOnlyUptoSaid : Prop := wireOnlyUptoRow.holds Try.pinned (OpenSpec.upto wireOnlySpec)

/-- 'broadsidelaw02.WireReads', WHERE WHAT IT READS IS OF BULK AT MOST 1048576: true; the input reads as it did. -/
def wireReadsUptoRow : OpenClaim := { program := "ytpbdnndpdidagaa", sum := "b4eb515a58c791e9b6cc57eae1ebe3594338a2f291e8d67c665d537adc7dd0e5", func := "broadside/broadsidelaw02.WireReads", spec := "wireReads", apart := false, narrowed := true }
def WireReadsUptoSaid : Prop := wireReadsUptoRow.holds Try.pinned (OpenSpec.upto wireReadsSpec)

/-- 'broadsidelaw02.WireNone', WHERE WHAT IT READS IS OF BULK AT MOST 1048576: true; the input reads as it did. -/
def wireNoneUptoRow : OpenClaim := { program := "ytpbdnndpdidagaa", sum := "b4eb515a58c791e9b6cc57eae1ebe3594338a2f291e8d67c665d537adc7dd0e5", func := "broadside/broadsidelaw02.WireNone", spec := "wireNone", apart := false, narrowed := true }
def WireNoneUptoSaid : Prop := wireNoneUptoRow.holds Try.pinned (OpenSpec.upto wireNoneSpec)

/-- 'broadsidelaw02.WireBack', WHERE WHAT IT READS IS OF BULK AT MOST 1048576: true; the input reads as it did. -/
def wireBackUptoRow : OpenClaim := { program := "ytpbdnndpdidagaa", sum := "b4eb515a58c791e9b6cc57eae1ebe3594338a2f291e8d67c665d537adc7dd0e5", func := "broadside/broadsidelaw02.WireBack", spec := "wireBack", apart := false, narrowed := true }
def WireBackUptoSaid : Prop := wireBackUptoRow.holds Try.pinned (OpenSpec.upto wireBackSpec)

/-- 'broadsidelaw04.SpecWrites', WHERE WHAT IT READS IS OF BULK AT MOST 1048576: true; the input reads as it did. -/
def specWritesUptoRow : OpenClaim := { program := "ytpbdnndpdidagaa", sum := "b4eb515a58c791e9b6cc57eae1ebe3594338a2f291e8d67c665d537adc7dd0e5", func := "broadside/broadsidelaw04.SpecWrites", spec := "specWrites", recurses := true, apart := false, narrowed := true }
def SpecWritesUptoSaid : Prop := specWritesUptoRow.holds Try.pinned (OpenSpec.upto specWritesSpec)

/-- 'broadsidelaw04.SpecBack', WHERE WHAT IT READS IS OF BULK AT MOST 1048576: true; the input reads as it did. -/
def specBackUptoRow : OpenClaim := { program := "ytpbdnndpdidagaa", sum := "b4eb515a58c791e9b6cc57eae1ebe3594338a2f291e8d67c665d537adc7dd0e5", func := "broadside/broadsidelaw04.SpecBack", spec := "specBack", apart := false, narrowed := true }
def SpecBackUptoSaid : Prop := specBackUptoRow.holds Try.pinned (OpenSpec.upto specBackSpec)

/-- 'broadsidelaw04.SpecMultiples', WHERE WHAT IT READS IS OF BULK AT MOST 1048576: true; the input reads as it did. -/
def specMultiplesUptoRow : OpenClaim := { program := "ytpbdnndpdidagaa", sum := "b4eb515a58c791e9b6cc57eae1ebe3594338a2f291e8d67c665d537adc7dd0e5", func := "broadside/broadsidelaw04.SpecMultiples", spec := "specMultiples", apart := false, narrowed := true }
def SpecMultiplesUptoSaid : Prop := specMultiplesUptoRow.holds Try.pinned (OpenSpec.upto specMultiplesSpec)

/-- 'broadsidelaw04.SpecBands', WHERE WHAT IT READS IS OF BULK AT MOST 1048576: true; the input reads as it did. -/
def specBandsUptoRow : OpenClaim := { program := "ytpbdnndpdidagaa", sum := "b4eb515a58c791e9b6cc57eae1ebe3594338a2f291e8d67c665d537adc7dd0e5", func := "broadside/broadsidelaw04.SpecBands", spec := "specBands", apart := false, narrowed := true }
def SpecBandsUptoSaid : Prop := specBandsUptoRow.holds Try.pinned (OpenSpec.upto specBandsSpec)

/-- 'broadsidelaw04.SpecMay', WHERE WHAT IT READS IS OF BULK AT MOST 1048576: true; the input reads as it did. -/
def specMayUptoRow : OpenClaim := { program := "ytpbdnndpdidagaa", sum := "b4eb515a58c791e9b6cc57eae1ebe3594338a2f291e8d67c665d537adc7dd0e5", func := "broadside/broadsidelaw04.SpecMay", spec := "specMay", apart := false, narrowed := true }
def SpecMayUptoSaid : Prop := specMayUptoRow.holds Try.pinned (OpenSpec.upto specMaySpec)

end Rows
end Go.Proofs.Ytpbdnndpdidagaa
