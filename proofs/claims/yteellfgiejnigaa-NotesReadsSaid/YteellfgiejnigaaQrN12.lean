/- The law NotesSame of two notes. -/
import Derived.Test.YteellfgiejnigaaQrN11
namespace Go.Proofs.Yteellfgiejnigaa
open Go.ChangeShapes Go.WideShapes Go.ChangeAt Go.RowKit
set_option linter.unusedVariables false
/-- A note's cells. -/
def ntc (x : Nt) (lv dv : Value) : Array Value := #[.int .u8 (x.kind : Int), .int .u64 (x.term : Int), .int .u64 (x.round : Int), .int .u64 (x.index : Int), .int .u64 (x.at_ : Int), .int .u64 (x.commit : Int), .bool x.yes, lv, dv]
end Go.Proofs.Yteellfgiejnigaa
