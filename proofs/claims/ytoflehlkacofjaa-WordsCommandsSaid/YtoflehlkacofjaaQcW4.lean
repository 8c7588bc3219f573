/- Walks of the reader: Small, Nat, Int, Left, Done, Fail. -/
import Derived.Test.YtoflehlkacofjaaQcW3
import Derived.Lib.BufferOwn
import Derived.Maps.AppendAt
namespace Go.Proofs.Ytoflehlkacofjaa
open Go.ChangeShapes Go.WideShapes Go.ChangeAt Go.RowKit
set_option linter.unusedVariables false
theorem Rdr.lt {w : World} {g : Nat} {v : Value} {a : Nat} {e : Int} (h : Rdr w g v a e) : g < w.heap.size := (Array.getElem?_eq_some_iff.1 h).1
theorem Rdr.set1 {w : World} {g : Nat} {v : Value} {a : Nat} {e : Int} (h : Rdr w g v a e) (a' : Nat) : Rdr (w.setCell ⟨g, 1, none⟩ (.int .i64 (a' : Int))) g v a' e := by
  unfold Rdr at *
  simp only [World.setCell, Array.getElem?_modify, h]; rfl
theorem Rdr.set2 {w : World} {g : Nat} {v : Value} {a : Nat} {e : Int} (h : Rdr w g v a e) (e' : Int) : Rdr (w.setCell ⟨g, 2, none⟩ (.int .i64 e')) g v a e' := by
  unfold Rdr at *
  simp only [World.setCell, Array.getElem?_modify, h]; rfl
theorem Rdr.same {w w' : World} {g : Nat} {v : Value} {a : Nat} {e : Int} (h : Rdr w g v a e) (hs : RegT.Same w w') : Rdr w' g v a e := by unfold Rdr; rw [hs.heap]; exact h
theorem Rdr.frozen {w : World} {g : Nat} {v : Value} {a : Nat} {e : Int} (h : Rdr w g v a e) (i : Nat) : w.frozen? ⟨g, i, none⟩ = false := by
  unfold Rdr at h
  simp [World.frozen?, h]

theorem Rdr.cell0 {w : World} {g : Nat} {v : Value} {a : Nat} {e : Int} (h : Rdr w g v a e) : w.cell? ⟨g, 0, none⟩ = some v := by rw [cell_of_row _ _ _ _ _ _ h]; rfl
theorem Rdr.cell1 {w : World} {g : Nat} {v : Value} {a : Nat} {e : Int} (h : Rdr w g v a e) : w.cell? ⟨g, 1, none⟩ = some (.int .i64 (a : Int)) := by rw [cell_of_row _ _ _ _ _ _ h]; rfl
theorem Rdr.cell2 {w : World} {g : Nat} {v : Value} {a : Nat} {e : Int} (h : Rdr w g v a e) : w.cell? ⟨g, 2, none⟩ = some (.int .i64 e) := by rw [cell_of_row _ _ _ _ _ _ h]; rfl
/-- The slice does not lie in block g. -/
def Off (v : Value) (g : Nat) : Prop := ∀ a n c, v = .slice (some a) n c → n ≠ 0 → a.block ≠ g
theorem RdB.grown {w w' : World} {v : Value} {l : List UInt8} {g : Nat} (h : RdB w v l) (hg : w.grownBy w' (some g)) (ho : Off v g) : RdB w' v l := by
  obtain ⟨p, c, rfl, h1, h2, h3, h4⟩ := h
  refine ⟨p, c, rfl, h1, h2, h3, fun hne => ?_⟩
  obtain ⟨b, off, rfl, hc⟩ := h4 hne
  have := ho _ _ _ rfl (fun e => hne (List.eq_nil_of_length_eq_zero e))
  exact ⟨b, off, rfl, fun i hi => hg.cell (hc i hi) (fun e => this (by cases e; rfl))⟩
theorem RdB.off {w : World} {v : Value} {l : List UInt8} (h : RdB w v l) {g : Nat} (hg : w.heap.size ≤ g) : Off v g := by
  obtain ⟨p, c, rfl, hp⟩ := h
  intro a n c' e hn
  simp only [Value.slice.injEq] at e
  obtain ⟨rfl, rfl, rfl⟩ := e
  obtain ⟨b, off, e, hb, _⟩ := hp.at (k := 0) (by omega)
  cases e
  show b ≠ g
  omega
/-- The reader at block g is now at this place, with this fault; all else is as it was. -/
def Moved (w w' : World) (g : Nat) (v : Value) (a : Nat) (e : Int) : Prop := Rdr w' g v a e ∧ w.grownBy w' (some g)
theorem same_grown {w w' : World} (h : RegT.Same w w') (row : Option Nat) : w.grownBy w' row := ⟨h.os, h.tape, h.output, by rw [h.heap]; exact Nat.le_refl _, fun k _ _ => by rw [h.heap]⟩
theorem moved_set1 {w W : World} {g : Nat} {v : Value} {a : Nat} {e : Int} (h : Rdr w g v a e) (hs : RegT.Same w W) (a' : Nat) : Moved w (W.setCell ⟨g, 1, none⟩ (.int .i64 (a' : Int))) g v a' e :=
  ⟨(h.same hs).set1 a', (same_grown hs _).trans (Lib.grownBy_setCell W g 1 _)⟩
theorem moved_set2 {w W : World} {g : Nat} {v : Value} {a : Nat} {e : Int} (h : Rdr w g v a e) (hs : RegT.Same w W) (e' : Int) : Moved w (W.setCell ⟨g, 2, none⟩ (.int .i64 e')) g v a e' :=
  ⟨(h.same hs).set2 e', (same_grown hs _).trans (Lib.grownBy_setCell W g 2 _)⟩

set_option maxRecDepth 100000 in
set_option maxHeartbeats 800000 in
theorem small_w (g : Nat) (v : Value) (b : List UInt8) (a : Nat) (e : Int) (most : Nat) (w : World) (h : Rdr w g v a e) (hb : RdB w v b) (ha : a ≤ b.length) (hl : b.length ≤ 1000000) (hm : most < 2 ^ 64) :
    Calls Try.prog 42 #[.pointer (some ⟨g, 0, none⟩), .int .u64 (most : Int)] w fun r w' => ∃ n a' : Nat, ∃ e' : Int, Form.small b a e most = (n, a', e') ∧ r = .returned (.int .u64 (n : Int)) ∧ Moved w w' g v a' e' := by
  have Hoff := Lib.hid (off_w g v a e w h)
  have Hrd := Lib.hid (rd_w g v b a e w h hb ha hl)
  have H := Lib.hid h
  clear h
  by_cases h0 : e = 0
  · go_enter Try.func42, Try.ntmps42
    have hd : decide (e ≠ 0) = false := by simp [h0]
    have H0 := Lib.hid h0
    clear h0
    obtain ⟨r3, hr3⟩ : ∃ r3, Form.rd 0 0 (b.drop a) = r3 := ⟨_, rfl⟩
    have hsm : Form.small b a e most = if r3.2.2 = 0 then (if most < r3.1 then (0, a, 5) else (r3.1, a + r3.2.1, 0)) else (0, a, ((r3.2.2 : Nat) : Int)) := by
      unfold Form.small; rw [if_neg (by simp [H0.out]), hr3]
    have Hsm := Lib.hid hsm
    have Hr3 := Lib.hid hr3
    clear hsm hr3
    go_wp2_with (first
      | (go_at_call 72; refine (Hoff.out).mono ?_; rintro e w1 ⟨rfl, rfl⟩)
      | (go_at_call 73; refine (Hrd.out).mono ?_; rintro e w1 ⟨hS, n, cnt, f, hrd, rfl⟩; have HS := Lib.hid hS; have hf1 := (H.out.same hS).frozen 1; have hf2 := (H.out.same hS).frozen 2; have hc1 := (H.out.same hS).cell1; have hc2 := (H.out.same hS).cell2; have Hrd2 := Lib.hid (Hr3.out.symm.trans hrd); clear hS hrd))
    all_goals go_ret
    · refine ⟨_, _, _, ?_, rfl, moved_set2 H.out HS.out _⟩
      rw [Hsm.out, Hrd2.out, if_pos (by assumption), if_pos (by assumption)]
    · refine ⟨_, _, _, ?_, rfl, moved_set1 H.out HS.out _⟩
      rw [Hsm.out, Hrd2.out, if_pos (by assumption), if_neg (by omega), H0.out]
    · refine ⟨_, _, _, ?_, rfl, moved_set2 H.out HS.out _⟩
      rw [Hsm.out, Hrd2.out, if_neg (by assumption)]
  · have hd : decide (e ≠ 0) = true := by simp [h0]
    go_enter Try.func42, Try.ntmps42
    have H0 := Lib.hid h0
    clear h0
    go_wp2_with (first
      | (go_at_call 72; refine (Hoff.out).mono ?_; rintro e w1 ⟨rfl, rfl⟩))
    go_ret
    refine ⟨0, a, e, ?_, rfl, H.out, World.grownBy.refl _ _⟩
    unfold Form.small; rw [if_pos H0.out]
end Go.Proofs.Ytoflehlkacofjaa
