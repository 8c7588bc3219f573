/- The law NotesSame of two notes. -/
import Derived.Test.YteellfgiejnigaaQbN11
namespace Go.Proofs.Yteellfgiejnigaa
open Go.ChangeShapes Go.WideShapes Go.ChangeAt Go.RowKit
set_option linter.unusedVariables false
/-- A note's cells. -/
def ntc (x : Nt) (lv dv : Value) : Array Value := #[.int .u8 (x.kind : Int), .int .u64 (x.term : Int), .int .u64 (x.round : Int), .int .u64 (x.index : Int), .int .u64 (x.at_ : Int), .int .u64 (x.commit : Int), .bool x.yes, lv, dv]
theorem ntv_ntc (x : Nt) (lv dv : Value) : ntv x lv dv = .agg (ntc x lv dv) := rfl
/-- What is not large: at most 40 entries, 60000 bytes of theirs, 20000 of a snapshot unless it is more than may be. -/
theorem not_large {x : Nt} (h : largeN x = false) : x.list.length ≤ 1000000 ∧ x.list.length ≤ 40 ∧ dsum x.list ≤ 60000 ∧ (x.data.length ≤ 20000 ∨ 524288 < x.data.length) := by
  unfold largeN at h
  have := of_decide_eq_false h
  omega
end Go.Proofs.Yteellfgiejnigaa
