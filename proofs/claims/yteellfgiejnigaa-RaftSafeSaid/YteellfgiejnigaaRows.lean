/-
  No cell of these rows narrows 'for every input' (looked for: loops, veiled, ifaces, maps, wideKeys, modest, calm, conditions, laid).
  DERIVED. THE GIVEN ROWS OF THIS SEAT. 10 by the template 'for every input the law returns true; each argument reads behind the call as it read before'; 0 by the template 'total and deterministic' (their statements: YteellfgiejnigaaTotals.lean).
  GIVEN WITH THE SEED: the statements are not yours to turn. If you find one false, say at which input.
  Laid BY PROGRAM, IN A SANDBOX (cutbox-rows.mjs): the forced cells as the released guide's own fill.sh prints them over the translation e23c239b8896fe93… (all of the seat's roots in one cut). By AI agents, Wed Nov 11 2026. No macro, syntax, notation, axiom, sorry.
-/
import Derived.Test.YteellfgiejnigaaChecked
import GoSem.Claim
import GoSem.ClaimJoined
import GoSem.ClaimMapViews
import Derived.JoinedTies
import Derived.KernelRfl
namespace Go.Proofs.Yteellfgiejnigaa
/- THE CELL 'sum', in the pinned program and in every row, IS THE sha256 OF THE DUMP (.gsa) THAT YteellfgiejnigaaProg.lean LOADS. Nothing in Lean hashes anything: it is a label: what it is worth is what the hold of that sum in a sandbox is worth. -/
noncomputable def Try.pinned : Pinned := { name := "yteellfgiejnigaa", sum := "e23c239b8896fe93c8d5374e47c3658ae98df1a68b7b1b71256a4d83f025235d", checked := Try.checked }
namespace Rows
def none {H : Type} : Left H := { results := [], args := [] }

/-- 'broadsidelaw24.TrackTips': WHATEVER THE INPUT: true; the input reads as it did. -/
def trackTipsSpec : ChangeSpec := { name := "trackTips", fn := fun _ => fun
  | [d1, d2, d3] => { results := [.lit (.bool true)], args := [d1, d2, d3] }
  | _ => none }
def trackTipsRow : OpenClaim := { program := "yteellfgiejnigaa", sum := "e23c239b8896fe93c8d5374e47c3658ae98df1a68b7b1b71256a4d83f025235d", func := "broadside/broadsidelaw24.TrackTips", spec := "trackTips", unfollowed := true, recurses := true, apart := false }
def TrackTipsSaid : Prop := trackTipsRow.holds Try.pinned (OpenSpec.ofChange trackTipsSpec)

/-- ITS FALSE NEIGHBOUR: 'it returns false'. Refute it at one input. -/
def trackTipsWrong : ChangeSpec := { name := "trackTips", fn := fun _ => fun
  | [d1, d2, d3] => { results := [.lit (.bool false)], args := [d1, d2, d3] }
  | _ => none }
def TrackTipsWrongFalsely : Prop := trackTipsRow.holds Try.pinned (OpenSpec.ofChange trackTipsWrong)

/-- 'broadsidelaw23.NotesSame': WHATEVER THE INPUT: true; the input reads as it did. -/
def notesSameSpec : ChangeSpec := { name := "notesSame", fn := fun _ => fun
  | [d1, d2] => { results := [.lit (.bool true)], args := [d1, d2] }
  | _ => none }
def notesSameRow : OpenClaim := { program := "yteellfgiejnigaa", sum := "e23c239b8896fe93c8d5374e47c3658ae98df1a68b7b1b71256a4d83f025235d", func := "broadside/broadsidelaw23.NotesSame", spec := "notesSame", unfollowed := true, recurses := true, apart := false }
def NotesSameSaid : Prop := notesSameRow.holds Try.pinned (OpenSpec.ofChange notesSameSpec)

/-- ITS FALSE NEIGHBOUR: 'it returns false'. Refute it at one input. -/
def notesSameWrong : ChangeSpec := { name := "notesSame", fn := fun _ => fun
  | [d1, d2] => { results := [.lit (.bool false)], args := [d1, d2] }
  | _ => none }
def NotesSameWrongFalsely : Prop := notesSameRow.holds Try.pinned (OpenSpec.ofChange notesSameWrong)

/-- 'broadsidelaw24.TrackMeets': WHATEVER THE INPUT: true; the input reads as it did. -/
def trackMeetsSpec : ChangeSpec := { name := "trackMeets", fn := fun _ => fun
  | [d1, d2, d3, d4, d5, d6] => { results := [.lit (.bool true)], args := [d1, d2, d3, d4, d5, d6] }
  | _ => none }
def trackMeetsRow : OpenClaim := { program := "yteellfgiejnigaa", sum := "e23c239b8896fe93c8d5374e47c3658ae98df1a68b7b1b71256a4d83f025235d", func := "broadside/broadsidelaw24.TrackMeets", spec := "trackMeets", unfollowed := true, recurses := true, apart := false }
def TrackMeetsSaid : Prop := trackMeetsRow.holds Try.pinned (OpenSpec.ofChange trackMeetsSpec)

/-- ITS FALSE NEIGHBOUR: 'it returns false'. Refute it at one input. -/
def trackMeetsWrong : ChangeSpec := { name := "trackMeets", fn := fun _ => fun
  | [d1, d2, d3, d4, d5, d6] => { results := [.lit (.bool false)], args := [d1, d2, d3, d4, d5, d6] }
  | _ => none }
def TrackMeetsWrongFalsely : Prop := trackMeetsRow.holds Try.pinned (OpenSpec.ofChange trackMeetsWrong)

/-- 'broadsidelaw24.TrackPlays': WHATEVER THE INPUT: true; the input reads as it did. -/
def trackPlaysSpec : ChangeSpec := { name := "trackPlays", fn := fun _ => fun
  | [d1, d2, d3, d4] => { results := [.lit (.bool true)], args := [d1, d2, d3, d4] }
  | _ => none }
def trackPlaysRow : OpenClaim := { program := "yteellfgiejnigaa", sum := "e23c239b8896fe93c8d5374e47c3658ae98df1a68b7b1b71256a4d83f025235d", func := "broadside/broadsidelaw24.TrackPlays", spec := "trackPlays", unfollowed := true, recurses := true, apart := false }
def TrackPlaysSaid : Prop := trackPlaysRow.holds Try.pinned (OpenSpec.ofChange trackPlaysSpec)

/-- ITS FALSE NEIGHBOUR: 'it returns false'. Refute it at one input. -/
def trackPlaysWrong : ChangeSpec := { name := "trackPlays", fn := fun _ => fun
  | [d1, d2, d3, d4] => { results := [.lit (.bool false)], args := [d1, d2, d3, d4] }
  | _ => none }
def TrackPlaysWrongFalsely : Prop := trackPlaysRow.holds Try.pinned (OpenSpec.ofChange trackPlaysWrong)

/-- 'broadsidelaw24.TrackNone': WHATEVER THE INPUT: true; the input reads as it did. -/
def trackNoneSpec : ChangeSpec := { name := "trackNone", fn := fun _ => fun
  | [d1, d2] => { results := [.lit (.bool true)], args := [d1, d2] }
  | _ => none }
def trackNoneRow : OpenClaim := { program := "yteellfgiejnigaa", sum := "e23c239b8896fe93c8d5374e47c3658ae98df1a68b7b1b71256a4d83f025235d", func := "broadside/broadsidelaw24.TrackNone", spec := "trackNone", unfollowed := true, recurses := true, apart := false }
def TrackNoneSaid : Prop := trackNoneRow.holds Try.pinned (OpenSpec.ofChange trackNoneSpec)

/-- ITS FALSE NEIGHBOUR: 'it returns false'. Refute it at one input. -/
def trackNoneWrong : ChangeSpec := { name := "trackNone", fn := fun _ => fun
  | [d1, d2] => { results := [.lit (.bool false)], args := [d1, d2] }
  | _ => none }
def TrackNoneWrongFalsely : Prop := trackNoneRow.holds Try.pinned (OpenSpec.ofChange trackNoneWrong)

/-- 'broadsidelaw23.NotesReads': WHATEVER THE INPUT: true; the input reads as it did. -/
def notesReadsSpec : ChangeSpec := { name := "notesReads", fn := fun _ => fun
  | [d] => { results := [.lit (.bool true)], args := [d] }
  | _ => none }
def notesReadsRow : OpenClaim := { program := "yteellfgiejnigaa", sum := "e23c239b8896fe93c8d5374e47c3658ae98df1a68b7b1b71256a4d83f025235d", func := "broadside/broadsidelaw23.NotesReads", spec := "notesReads", unfollowed := true, recurses := true, apart := false }
def NotesReadsSaid : Prop := notesReadsRow.holds Try.pinned (OpenSpec.ofChange notesReadsSpec)

/-- ITS FALSE NEIGHBOUR: 'it returns false'. Refute it at one input. -/
def notesReadsWrong : ChangeSpec := { name := "notesReads", fn := fun _ => fun
  | [d] => { results := [.lit (.bool false)], args := [d] }
  | _ => none }
def NotesReadsWrongFalsely : Prop := notesReadsRow.holds Try.pinned (OpenSpec.ofChange notesReadsWrong)

/-- 'broadsidelaw23.NotesCut': WHATEVER THE INPUT: true; the input reads as it did. -/
def notesCutSpec : ChangeSpec := { name := "notesCut", fn := fun _ => fun
  | [d1, d2, d3] => { results := [.lit (.bool true)], args := [d1, d2, d3] }
  | _ => none }
def notesCutRow : OpenClaim := { program := "yteellfgiejnigaa", sum := "e23c239b8896fe93c8d5374e47c3658ae98df1a68b7b1b71256a4d83f025235d", func := "broadside/broadsidelaw23.NotesCut", spec := "notesCut", unfollowed := true, recurses := true, apart := false }
def NotesCutSaid : Prop := notesCutRow.holds Try.pinned (OpenSpec.ofChange notesCutSpec)

/-- ITS FALSE NEIGHBOUR: 'it returns false'. Refute it at one input. -/
def notesCutWrong : ChangeSpec := { name := "notesCut", fn := fun _ => fun
  | [d1, d2, d3] => { results := [.lit (.bool false)], args := [d1, d2, d3] }
  | _ => none }
def NotesCutWrongFalsely : Prop := notesCutRow.holds Try.pinned (OpenSpec.ofChange notesCutWrong)

/-- 'broadsidelaw23.NotesBytes': WHATEVER THE INPUT: true; the input reads as it did. -/
def notesBytesSpec : ChangeSpec := { name := "notesBytes", fn := fun _ => fun
  | [d] => { results := [.lit (.bool true)], args := [d] }
  | _ => none }
def notesBytesRow : OpenClaim := { program := "yteellfgiejnigaa", sum := "e23c239b8896fe93c8d5374e47c3658ae98df1a68b7b1b71256a4d83f025235d", func := "broadside/broadsidelaw23.NotesBytes", spec := "notesBytes", unfollowed := true, recurses := true, apart := false }
def NotesBytesSaid : Prop := notesBytesRow.holds Try.pinned (OpenSpec.ofChange notesBytesSpec)

/-- ITS FALSE NEIGHBOUR: 'it returns false'. Refute it at one input. -/
def notesBytesWrong : ChangeSpec := { name := "notesBytes", fn := fun _ => fun
  | [d] => { results := [.lit (.bool false)], args := [d] }
  | _ => none }
def NotesBytesWrongFalsely : Prop := notesBytesRow.holds Try.pinned (OpenSpec.ofChange notesBytesWrong)

/-- 'broadsidelaw25.RaftSafe': WHATEVER THE INPUT: true; the input reads as it did. -/
def raftSafeSpec : ChangeSpec := { name := "raftSafe", fn := fun _ => fun
  | [d1, d2, d3] => { results := [.lit (.bool true)], args := [d1, d2, d3] }
  | _ => none }
def raftSafeRow : OpenClaim := { program := "yteellfgiejnigaa", sum := "e23c239b8896fe93c8d5374e47c3658ae98df1a68b7b1b71256a4d83f025235d", func := "broadside/broadsidelaw25.RaftSafe", spec := "raftSafe", unfollowed := true, recurses := true, apart := false }
def RaftSafeSaid : Prop := raftSafeRow.holds Try.pinned (OpenSpec.ofChange raftSafeSpec)

/-- ITS FALSE NEIGHBOUR: 'it returns false'. Refute it at one input. -/
def raftSafeWrong : ChangeSpec := { name := "raftSafe", fn := fun _ => fun
  | [d1, d2, d3] => { results := [.lit (.bool false)], args := [d1, d2, d3] }
  | _ => none }
def RaftSafeWrongFalsely : Prop := raftSafeRow.holds Try.pinned (OpenSpec.ofChange raftSafeWrong)

/-- 'broadsidelaw25.RaftNone': WHATEVER THE INPUT: true; the input reads as it did. -/
def raftNoneSpec : ChangeSpec := { name := "raftNone", fn := fun _ => fun
  | [d1, d2, d3] => { results := [.lit (.bool true)], args := [d1, d2, d3] }
  | _ => none }
def raftNoneRow : OpenClaim := { program := "yteellfgiejnigaa", sum := "e23c239b8896fe93c8d5374e47c3658ae98df1a68b7b1b71256a4d83f025235d", func := "broadside/broadsidelaw25.RaftNone", spec := "raftNone", unfollowed := true, recurses := true, apart := false }
def RaftNoneSaid : Prop := raftNoneRow.holds Try.pinned (OpenSpec.ofChange raftNoneSpec)

/-- ITS FALSE NEIGHBOUR: 'it returns false'. Refute it at one input. -/
def raftNoneWrong : ChangeSpec := { name := "raftNone", fn := fun _ => fun
  | [d1, d2, d3] => { results := [.lit (.bool false)], args := [d1, d2, d3] }
  | _ => none }
def RaftNoneWrongFalsely : Prop := raftNoneRow.holds Try.pinned (OpenSpec.ofChange raftNoneWrong)

/- THE SECOND FORM. 'bulk': how many values and letters a reading holds, each counted each time it is reached (what is shared counts as often as it is met; a slice's spare places count too). A statement '..UptoSaid' is the law's where the arguments, and the package variables that the reading takes, are together of bulk at most 1048576: NARROWER than '..Said'. Prove '..Said' where nothing that the law and all that it calls make is longer than what came in: it says more and counts as full. Else prove '..UptoSaid'. A law counts once. -/
mutual
def uptoBulk {H : Type} : DataW H → Nat
  | .lit (.string bytes) => bytes.length + 1
  | .lit _ => 1
  | .nil => 1
  | .ptr d => uptoBulk d + 1
  | .slice elems spare => uptoBulkAll elems + uptoBulkAll spare + 1
  | .agg parts => uptoBulkAll parts + 1
  | .iface _ d => uptoBulk d + 1
  | .map entries => uptoBulkEntries entries + 1
  | .held _ => 1
def uptoBulkAll {H : Type} : List (DataW H) → Nat
  | [] => 0
  | d :: r => uptoBulk d + uptoBulkAll r
def uptoBulkEntries {H : Type} : List (Lit × DataW H) → Nat
  | [] => 0
  | x :: r => uptoBulkEntry x + uptoBulkEntries r
def uptoBulkEntry {H : Type} : Lit × DataW H → Nat
  | (.string bytes, d) => bytes.length + uptoBulk d + 1
  | (_, d) => uptoBulk d + 1
 end
def uptoSmall : (H : Type) → List (DataW H) → Bool := fun _ ds => decide (uptoBulkAll ds ≤ 1048576)
def OpenSpec.upto (s : _root_.Go.ChangeSpec) : _root_.Go.OpenSpec := { _root_.Go.OpenSpec.ofChange s with cond := some uptoSmall }

/-- 'broadsidelaw24.TrackTips', WHERE WHAT IT READS IS OF BULK AT MOST 1048576: true; the input reads as it did. -/
def trackTipsUptoRow : OpenClaim := { program := "yteellfgiejnigaa", sum := "e23c239b8896fe93c8d5374e47c3658ae98df1a68b7b1b71256a4d83f025235d", func := "broadside/broadsidelaw24.TrackTips", spec := "trackTips", unfollowed := true, recurses := true, apart := false, narrowed := true }
def TrackTipsUptoSaid : Prop := trackTipsUptoRow.holds Try.pinned (OpenSpec.upto trackTipsSpec)

/-- 'broadsidelaw23.NotesSame', WHERE WHAT IT READS IS OF BULK AT MOST 1048576: true; the input reads as it did. -/
def notesSameUptoRow : OpenClaim := { program := "yteellfgiejnigaa", sum := "e23c239b8896fe93c8d5374e47c3658ae98df1a68b7b1b71256a4d83f025235d", func := "broadside/broadsidelaw23.NotesSame", spec := "notesSame", unfollowed := true, recurses := true, apart := false, narrowed := true }
def NotesSameUptoSaid : Prop := notesSameUptoRow.holds Try.pinned (OpenSpec.upto notesSameSpec)

/-- 'broadsidelaw24.TrackMeets', WHERE WHAT IT READS IS OF BULK AT MOST 1048576: true; the input reads as it did. -/
def trackMeetsUptoRow : OpenClaim := { program := "yteellfgiejnigaa", sum := "e23c239b8896fe93c8d5374e47c3658ae98df1a68b7b1b71256a4d83f025235d", func := "broadside/broadsidelaw24.TrackMeets", spec := "trackMeets", unfollowed := true, recurses := true, apart := false, narrowed := true }
def TrackMeetsUptoSaid : Prop := trackMeetsUptoRow.holds Try.pinned (OpenSpec.upto trackMeetsSpec)

/-- 'broadsidelaw24.TrackPlays', WHERE WHAT IT READS IS OF BULK AT MOST 1048576: true; the input reads as it did. -/
def trackPlaysUptoRow : OpenClaim := { program := "yteellfgiejnigaa", sum := "e23c239b8896fe93c8d5374e47c3658ae98df1a68b7b1b71256a4d83f025235d", func := "broadside/broadsidelaw24.TrackPlays", spec := "trackPlays", unfollowed := true, recurses := true, apart := false, narrowed := true }
def TrackPlaysUptoSaid : Prop := trackPlaysUptoRow.holds Try.pinned (OpenSpec.upto trackPlaysSpec)

/-- 'broadsidelaw24.TrackNone', WHERE WHAT IT READS IS OF BULK AT MOST 1048576: true; the input reads as it did. -/
def trackNoneUptoRow : OpenClaim := { program := "yteellfgiejnigaa", sum := "e23c239b8896fe93c8d5374e47c3658ae98df1a68b7b1b71256a4d83f025235d", func := "broadside/broadsidelaw24.TrackNone", spec := "trackNone", unfollowed := true, recurses := true, apart := false, narrowed := true }
def TrackNoneUptoSaid : Prop := trackNoneUptoRow.holds Try.pinned (OpenSpec.upto trackNoneSpec)

/-- 'broadsidelaw23.NotesReads', WHERE WHAT IT READS IS OF BULK AT MOST 1048576: true; the input reads as it did. -/
def notesReadsUptoRow : OpenClaim := { program := "yteellfgiejnigaa", sum := "e23c239b8896fe93c8d5374e47c3658ae98df1a68b7b1b71256a4d83f025235d", func := "broadside/broadsidelaw23.NotesReads", spec := "notesReads", unfollowed := true, recurses := true, apart := false, narrowed := true }
def NotesReadsUptoSaid : Prop := notesReadsUptoRow.holds Try.pinned (OpenSpec.upto notesReadsSpec)

/-- 'broadsidelaw23.NotesCut', WHERE WHAT IT READS IS OF BULK AT MOST 1048576: true; the input reads as it did. -/
def notesCutUptoRow : OpenClaim := { program := "yteellfgiejnigaa", sum := "e23c239b8896fe93c8d5374e47c3658ae98df1a68b7b1b71256a4d83f025235d", func := "broadside/broadsidelaw23.NotesCut", spec := "notesCut", unfollowed := true, recurses := true, apart := false, narrowed := true }
def NotesCutUptoSaid : Prop := notesCutUptoRow.holds Try.pinned (OpenSpec.upto notesCutSpec)

/-- 'broadsidelaw23.NotesBytes', WHERE WHAT IT READS IS OF BULK AT MOST 1048576: true; the input reads as it did. -/
def notesBytesUptoRow : OpenClaim := { program := "yteellfgiejnigaa", sum := "e23c239b8896fe93c8d5374e47c3658ae98df1a68b7b1b71256a4d83f025235d", func := "broadside/broadsidelaw23.NotesBytes", spec := "notesBytes", unfollowed := true, recurses := true, apart := false, narrowed := true }
def NotesBytesUptoSaid : Prop := notesBytesUptoRow.holds Try.pinned (OpenSpec.upto notesBytesSpec)

/-- 'broadsidelaw25.RaftSafe', WHERE WHAT IT READS IS OF BULK AT MOST 1048576: true; the input reads as it did. -/
def raftSafeUptoRow : OpenClaim := { program := "yteellfgiejnigaa", sum := "e23c239b8896fe93c8d5374e47c3658ae98df1a68b7b1b71256a4d83f025235d", func := "broadside/broadsidelaw25.RaftSafe", spec := "raftSafe", unfollowed := true, recurses := true, apart := false, narrowed := true }
def RaftSafeUptoSaid : Prop := raftSafeUptoRow.holds Try.pinned (OpenSpec.upto raftSafeSpec)

/-- 'broadsidelaw25.RaftNone', WHERE WHAT IT READS IS OF BULK AT MOST 1048576: true; the input reads as it did. -/
def raftNoneUptoRow : OpenClaim := { program := "yteellfgiejnigaa", sum := "e23c239b8896fe93c8d5374e47c3658ae98df1a68b7b1b71256a4d83f025235d", func := "broadside/broadsidelaw25.RaftNone", spec := "raftNone", unfollowed := true, recurses := true, apart := false, narrowed := true }
def RaftNoneUptoSaid : Prop := raftNoneUptoRow.holds Try.pinned (OpenSpec.upto raftNoneSpec)

end Rows
end Go.Proofs.Yteellfgiejnigaa
