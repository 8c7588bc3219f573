/- The walk of the law NotesReads. -/
import Derived.Test.YteellfgiejnigaaQbU9
import Derived.Test.YteellfgiejnigaaQbX6
import Derived.Deep.RegionLaw
namespace Go.Proofs.Yteellfgiejnigaa
open Go.ChangeShapes Go.WideShapes Go.ChangeAt Go.RowKit
set_option linter.unusedVariables false
/-- These cells are this note. -/
def NoteC (W : World) (S : Foot) (x : Nt) (cx : Array Value) : Prop := ∃ lv dv, cx = ntc x lv dv ∧ NtA W S lv dv x
theorem NoteC.keeps {W W' : World} {S : Foot} {x : Nt} {cx : Array Value} (h : NoteC W S x cx) (hk : Keeps W W') : NoteC W' S x cx := by
  obtain ⟨lv, dv, e, h⟩ := h; exact ⟨lv, dv, e, h.keeps hk⟩
theorem NoteC.size {W : World} {S : Foot} {x : Nt} {cx : Array Value} (h : NoteC W S x cx) : cx.size = 9 := by
  obtain ⟨lv, dv, rfl, h⟩ := h; rfl
theorem NoteC.one {W : World} {S : Foot} {x : Nt} {cx : Array Value} (h : NoteC W S x cx) : cx.all (·.oneCell') = true := by
  obtain ⟨lv, dv, rfl, h⟩ := h
  obtain ⟨⟨p, c, rfl⟩, ⟨q, d, rfl⟩⟩ := h.forms
  simp [ntc, Value.oneCell']
theorem NoteC.of_read {w w' : World} {b : List UInt8} {r : Ending} (h : ReadP w (Rd.taken b) (Rd.fine b) r w') : ∃ cx, r = .returned (.tuple #[.agg cx, .int .i64 (Rd.fault b)]) ∧ NoteC w' (fun p => w.heap.size ≤ p) (Rd.note b) cx ∧ Below w.heap.size w w' := by
  obtain ⟨lv, dv, rfl, hn, hB⟩ := h
  exact ⟨ntc (Rd.note b) lv dv, rfl, ⟨lv, dv, rfl, hn⟩, hB⟩
theorem noteC_same {W : World} {S1 S2 : Foot} {x : Nt} {cx cz : Array Value} (h1 : NoteC W S1 x cx) (h2 : NoteC W S2 x cz) (hn : x.list.length ≤ 1000000) :
    Calls Try.prog 20 #[.agg cx, .agg cz] W fun e w' => e = .returned (.bool true) ∧ Below W.heap.size W w' := by
  obtain ⟨lv, dv, rfl, a⟩ := h1
  obtain ⟨lv2, dv2, rfl, c⟩ := h2
  have h := rnoteSame_w x x lv dv lv2 dv2 S1 S2 W a c hn
  rw [(sameN_iff x x).2 rfl] at h
  exact h
end Go.Proofs.Yteellfgiejnigaa
