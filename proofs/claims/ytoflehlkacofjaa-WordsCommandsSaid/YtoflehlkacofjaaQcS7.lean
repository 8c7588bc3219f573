/- A contract's data, read: plain, and Take. -/
import Derived.Test.YtoflehlkacofjaaQcS6
import Derived.Great.BuildSlice
namespace Go.Proofs.Ytoflehlkacofjaa
open Go.ChangeShapes Go.WideShapes Go.ChangeAt Go.RowKit
set_option linter.unusedVariables false
namespace Form
theorem small_most {b : List UInt8} {a : Nat} {e : Int} {most n a' : Nat} {e' : Int} (h : small b a e most = (n, a', e')) : n ≤ most := by
  unfold small at h
  split at h
  · cases h; exact Nat.zero_le _
  · obtain ⟨r, hr⟩ : ∃ r, rd 0 0 (b.drop a) = r := ⟨_, rfl⟩
    simp only [hr] at h
    split at h
    · split at h
      · cases h; exact Nat.zero_le _
      · cases h; omega
    · cases h; exact Nat.zero_le _
def mst (i : Nat) : Nat := if i = 0 then 4294967295 else if i = 1 then 255 else if i < 6 then 9223372036854775807 else if i < 22 then 18446744073709551615 else if i = 23 then 4294967295 else 9223372036854775807
theorem mst_lt (i : Nat) : mst i < 2 ^ 64 := by
  unfold mst
  repeat' split
  all_goals decide
/-- Where a reader stands behind i numbers, and with what fault. -/
def rst (b : List UInt8) (a : Nat) (e : Int) : Nat → Nat × Int
  | 0 => (a, e)
  | i + 1 => (small b (rst b a e i).1 (rst b a e i).2 (mst i)).2
def rv (b : List UInt8) (a : Nat) (e : Int) (i : Nat) : Nat := (small b (rst b a e i).1 (rst b a e i).2 (mst i)).1
theorem rst_step (b : List UInt8) (a : Nat) (e : Int) (i : Nat) : small b (rst b a e i).1 (rst b a e i).2 (mst i) = (rv b a e i, (rst b a e (i + 1)).1, (rst b a e (i + 1)).2) := rfl
theorem rst_le (b : List UInt8) (a : Nat) (e : Int) (h : a ≤ b.length) : ∀ i, (rst b a e i).1 ≤ b.length := by
  intro i
  induction i with
  | zero => exact h
  | succ i ih => exact (small_le (rst_step b a e i) ih).2.1
theorem rv_le (b : List UInt8) (a : Nat) (e : Int) (i : Nat) : rv b a e i ≤ mst i := small_most (rst_step b a e i)
theorem rv_lt (b : List UInt8) (a : Nat) (e : Int) (i : Nat) : rv b a e i < 2 ^ 64 := Nat.lt_of_le_of_lt (rv_le b a e i) (mst_lt i)
end Form
namespace Sp
/-- The data that are read. -/
def taken (b : List UInt8) (a : Nat) (e : Int) : Sp :=
  ⟨(Form.rv b a e 0 : Nat), (Form.rv b a e 1 : Nat), (Form.rv b a e 2 : Nat), (Form.rv b a e 3 : Nat), (Form.rv b a e 4 : Nat), (Form.rv b a e 5 : Nat), fun j => Form.unfold_ (Form.rv b a e (6 + j)), (Form.rv b a e 22 : Nat), (Form.rv b a e 23 : Nat), (Form.rv b a e 24 : Nat)⟩
theorem taken_ok (b : List UInt8) (a : Nat) (e : Int) : (taken b a e).ok := by
  have h : ∀ i, Form.rv b a e i ≤ Form.mst i := Form.rv_le b a e
  refine ⟨?_, ?_, ?_, ?_, ?_, ?_, fun j => Form.unfold_bd _ (Form.rv_lt b a e _), ?_, ?_, ?_⟩
  · have := h 0; simp only [Form.mst] at this; show (0 : Int) ≤ (Form.rv b a e 0 : Nat) ∧ ((Form.rv b a e 0 : Nat) : Int) ≤ _; simp at this; omega
  · have := h 1; simp only [Form.mst] at this; show (0 : Int) ≤ (Form.rv b a e 1 : Nat) ∧ ((Form.rv b a e 1 : Nat) : Int) ≤ _; simp at this; omega
  · have := h 2; simp only [Form.mst] at this; show i64 (Form.rv b a e 2 : Nat); unfold i64; simp at this; omega
  · have := h 3; simp only [Form.mst] at this; show i64 (Form.rv b a e 3 : Nat); unfold i64; simp at this; omega
  · have := h 4; simp only [Form.mst] at this; show i64 (Form.rv b a e 4 : Nat); unfold i64; simp at this; omega
  · have := h 5; simp only [Form.mst] at this; show i64 (Form.rv b a e 5 : Nat); unfold i64; simp at this; omega
  · have := h 22; simp only [Form.mst] at this; show i64 (Form.rv b a e 22 : Nat); unfold i64; simp at this; omega
  · have := h 23; simp only [Form.mst] at this; show (0 : Int) ≤ (Form.rv b a e 23 : Nat) ∧ ((Form.rv b a e 23 : Nat) : Int) ≤ _; simp at this; omega
  · have := h 24; simp only [Form.mst] at this; show i64 (Form.rv b a e 24 : Nat); unfold i64; simp at this; omega
/-- Its first i numbers, the others 0. -/
def trunc (s : Sp) (i : Nat) : Sp :=
  ⟨if 0 < i then s.number else 0, if 1 < i then s.route else 0, if 2 < i then s.tick else 0, if 3 < i then s.lot else 0, if 4 < i then s.band else 0, if 5 < i then s.limit else 0,
    fun j => if 6 + j < i then s.sh j else 0, if 22 < i then s.credit else 0, if 23 < i then s.last else 0, if 24 < i then s.first else 0⟩
def zero : Sp := ⟨0, 0, 0, 0, 0, 0, fun _ => 0, 0, 0, 0⟩
theorem trunc_set (s : Sp) (i : Nat) (hi : i < 25) : (s.trunc i).cells.setIfInBounds i (s.cells.getD i undef) = (s.trunc (i + 1)).cells := by
  have h : i = 0 ∨ i = 1 ∨ i = 2 ∨ i = 3 ∨ i = 4 ∨ i = 5 ∨ i = 6 ∨ i = 7 ∨ i = 8 ∨ i = 9 ∨ i = 10 ∨ i = 11 ∨ i = 12 ∨ i = 13 ∨ i = 14 ∨ i = 15 ∨ i = 16 ∨ i = 17 ∨ i = 18 ∨ i = 19 ∨ i = 20 ∨ i = 21 ∨ i = 22 ∨ i = 23 ∨ i = 24 := by omega
  rcases h with rfl | rfl | rfl | rfl | rfl | rfl | rfl | rfl | rfl | rfl | rfl | rfl | rfl | rfl | rfl | rfl | rfl | rfl | rfl | rfl | rfl | rfl | rfl | rfl | rfl <;> rfl
end Sp
theorem SpAt.set {w : World} {B : Nat} {s : Sp} {i : Nat} (h : SpAt w B (s.trunc i)) (hi : i < 25) (v : Value) (hv : s.cells.getD i undef = v) : SpAt (w.setCell ⟨B, i, none⟩ v) B (s.trunc (i + 1)) := by
  subst hv
  unfold SpAt at *
  simp only [World.setCell, Array.getElem?_modify, h, if_true, Option.map_some]
  rw [← s.trunc_set i hi]
  rfl
theorem SpAt.kept {w w' : World} {B : Nat} {s : Sp} (h : SpAt w B s) {row : Option Nat} (hg : w.grownBy w' row) (hne : some B ≠ row) : SpAt w' B s := by
  unfold SpAt at *
  rw [hg.block B (Array.getElem?_eq_some_iff.1 h).1 hne]; exact h

/-- Reading goes on: k numbers are read, j are laid down. -/
structure TK (w wr : World) (g : Nat) (v : Value) (b : List UInt8) (a : Nat) (e : Int) (R B k j : Nat) : Prop where
  rd : Rdr wr g v (Form.rst b a e k).1 (Form.rst b a e k).2
  bs : RdB wr v b
  sp : SpAt wr B ((Sp.taken b a e).trunc j)
  rz : SpAt wr R Sp.zero
  gr : w.grownBy wr (some g)
theorem TK.read {w wr w1 : World} {g : Nat} {v : Value} {b : List UInt8} {a : Nat} {e : Int} {R B k j : Nat} (h : TK w wr g v b a e R B k j) (hm : Moved wr w1 g v (Form.rst b a e (k + 1)).1 (Form.rst b a e (k + 1)).2) (ho : Off v g) (hR : R ≠ g) (hB : B ≠ g) : TK w w1 g v b a e R B (k + 1) j :=
  ⟨hm.1, h.bs.grown hm.2 ho, h.sp.kept hm.2 (by simpa using hB), h.rz.kept hm.2 (by simpa using hR), h.gr.trans hm.2⟩
theorem TK.lay {w wr : World} {g : Nat} {v : Value} {b : List UInt8} {a : Nat} {e : Int} {R B k j : Nat} (h : TK w wr g v b a e R B k j) (hj : j < 25) (x : Value) (hx : (Sp.taken b a e).cells.getD j undef = x) (ho : Off v B) (hR : R ≠ B) (hB : B ≠ g) (hBw : w.heap.size ≤ B) : TK w (wr.setCell ⟨B, j, none⟩ x) g v b a e R B k (j + 1) :=
  have hg := Lib.grownBy_setCell wr B j x
  ⟨h.rd.kept hg (by simpa using fun e => hB e.symm), h.bs.grown hg ho, h.sp.set hj x hx, h.rz.kept hg (by simpa using hR),
    ⟨hg.os.trans h.gr.os, hg.tape.trans h.gr.tape, hg.output.trans h.gr.output, Nat.le_trans h.gr.size hg.size, fun k hk hne => by rw [hg.block k (Nat.lt_of_lt_of_le hk h.gr.size) (by simp; omega), h.gr.block k hk hne]⟩⟩
end Go.Proofs.Ytoflehlkacofjaa
