/- A command's form; words.Command, whole. -/
import Derived.Test.YtoflehlkacofjaaQcA5
namespace Go.Proofs.Ytoflehlkacofjaa
open Go.ChangeShapes Go.WideShapes Go.ChangeAt Go.RowKit
set_option linter.unusedVariables false
/-- The letters of a kind's fields, in their order. -/
def flds (k : Nat) : List UInt8 := if k = 1 ∨ k = 2 then [97, 109] else if k = 3 then [115] else if k = 4 then [99, 111] else if k = 5 then [97, 99, 98, 107, 112, 113] else if k = 6 then [97, 110] else if k = 7 then [97, 110, 112, 113] else if k = 8 then [97, 99]
  else if k = 9 then [97, 99, 98, 112, 113] else if k = 10 then [97, 111] else if k = 11 then [99, 112] else if k = 13 then [97] else if k = 14 then [99] else []
namespace Cm
/-- What a letter's field is written as. -/
def piece (x : Cm) (c : UInt8) : List UInt8 := if c = 97 then Form.nat x.account else if c = 99 then Form.nat x.contract else if c = 110 then Form.nat x.number else if c = 109 then Form.nat (Form.fold x.amount) else if c = 115 then x.spec.form
  else if c = 111 then Form.flag x.on else if c = 98 then Form.flag x.buy else if c = 107 then Form.nat x.as_ else if c = 112 then Form.nat (Form.fold x.price) else if c = 113 then Form.nat (Form.fold x.qty) else []
def form (x : Cm) : List UInt8 := Form.nat x.kind ++ (flds x.kind).flatMap x.piece
end Cm
theorem form_1 (a n u : Nat) (m : Int) (s : Sp) (o b : Bool) (z : Nat) (p q : Int) : (Cm.mk 1 a n u m s o b z p q).form = ((Form.nat 1 ++ Form.nat a) ++ Form.nat (Form.fold m)) := by
  simp [Cm.form, flds, Cm.piece]
theorem form_2 (a n u : Nat) (m : Int) (s : Sp) (o b : Bool) (z : Nat) (p q : Int) : (Cm.mk 2 a n u m s o b z p q).form = ((Form.nat 2 ++ Form.nat a) ++ Form.nat (Form.fold m)) := by
  simp [Cm.form, flds, Cm.piece]
theorem form_3 (a n u : Nat) (m : Int) (s : Sp) (o b : Bool) (z : Nat) (p q : Int) : (Cm.mk 3 a n u m s o b z p q).form = (Form.nat 3 ++ s.form) := by
  simp [Cm.form, flds, Cm.piece]
theorem form_4 (a n u : Nat) (m : Int) (s : Sp) (o b : Bool) (z : Nat) (p q : Int) : (Cm.mk 4 a n u m s o b z p q).form = ((Form.nat 4 ++ Form.nat n) ++ Form.flag o) := by
  simp [Cm.form, flds, Cm.piece]
theorem form_5 (a n u : Nat) (m : Int) (s : Sp) (o b : Bool) (z : Nat) (p q : Int) : (Cm.mk 5 a n u m s o b z p q).form = (((((Form.nat 5 ++ Form.nat a) ++ Form.nat n) ++ Form.flag b) ++ Form.nat z) ++ (Form.nat (Form.fold p) ++ Form.nat (Form.fold q))) := by
  simp [Cm.form, flds, Cm.piece]
theorem form_6 (a n u : Nat) (m : Int) (s : Sp) (o b : Bool) (z : Nat) (p q : Int) : (Cm.mk 6 a n u m s o b z p q).form = ((Form.nat 6 ++ Form.nat a) ++ Form.nat u) := by
  simp [Cm.form, flds, Cm.piece]
theorem form_7 (a n u : Nat) (m : Int) (s : Sp) (o b : Bool) (z : Nat) (p q : Int) : (Cm.mk 7 a n u m s o b z p q).form = (((Form.nat 7 ++ Form.nat a) ++ Form.nat u) ++ (Form.nat (Form.fold p) ++ Form.nat (Form.fold q))) := by
  simp [Cm.form, flds, Cm.piece]
theorem form_8 (a n u : Nat) (m : Int) (s : Sp) (o b : Bool) (z : Nat) (p q : Int) : (Cm.mk 8 a n u m s o b z p q).form = ((Form.nat 8 ++ Form.nat a) ++ Form.nat n) := by
  simp [Cm.form, flds, Cm.piece]
theorem form_9 (a n u : Nat) (m : Int) (s : Sp) (o b : Bool) (z : Nat) (p q : Int) : (Cm.mk 9 a n u m s o b z p q).form = ((((Form.nat 9 ++ Form.nat a) ++ Form.nat n) ++ Form.flag b) ++ (Form.nat (Form.fold p) ++ Form.nat (Form.fold q))) := by
  simp [Cm.form, flds, Cm.piece]
theorem form_10 (a n u : Nat) (m : Int) (s : Sp) (o b : Bool) (z : Nat) (p q : Int) : (Cm.mk 10 a n u m s o b z p q).form = ((Form.nat 10 ++ Form.nat a) ++ Form.flag o) := by
  simp [Cm.form, flds, Cm.piece]
theorem form_11 (a n u : Nat) (m : Int) (s : Sp) (o b : Bool) (z : Nat) (p q : Int) : (Cm.mk 11 a n u m s o b z p q).form = ((Form.nat 11 ++ Form.nat n) ++ Form.nat (Form.fold p)) := by
  simp [Cm.form, flds, Cm.piece]
theorem form_12 (a n u : Nat) (m : Int) (s : Sp) (o b : Bool) (z : Nat) (p q : Int) : (Cm.mk 12 a n u m s o b z p q).form = Form.nat 12 := by
  simp [Cm.form, flds]
theorem form_13 (a n u : Nat) (m : Int) (s : Sp) (o b : Bool) (z : Nat) (p q : Int) : (Cm.mk 13 a n u m s o b z p q).form = (Form.nat 13 ++ Form.nat a) := by
  simp [Cm.form, flds, Cm.piece]
theorem form_14 (a n u : Nat) (m : Int) (s : Sp) (o b : Bool) (z : Nat) (p q : Int) : (Cm.mk 14 a n u m s o b z p q).form = (Form.nat 14 ++ Form.nat n) := by
  simp [Cm.form, flds, Cm.piece]
theorem Cm.may_open {x : Cm} (h : x.mayB = true) : 1 ≤ x.kind ∧ x.kind ≤ 14 ∧ x.same x.bare = true ∧ (x.kind = 3 → x.spec.mayB = true) := by
  unfold Cm.mayB at h
  simp only [Bool.and_eq_true, decide_eq_true_eq, Bool.or_eq_true] at h
  exact ⟨h.1, h.2.1, h.2.2.1, fun e => h.2.2.2.resolve_left fun n => n e⟩
theorem cmd_yes_w (x : Cm) (w : World) (hok : x.ok) (hm : x.mayB = true) : Calls Try.prog 10 #[.agg x.cells] w (CmdY w x.form) := by
  have hM : ∀ W, Calls Try.prog 19 #[.agg x.cells] W fun e w' => e = .returned (.bool true) ∧ Below W.heap.size W w' := fun W => by have h := may19_w x hok W; rw [hm] at h; exact h
  obtain ⟨h1, h2, _, h3⟩ := Cm.may_open hm
  obtain ⟨k, a, n, u, m, s, o, b, z, p, q⟩ := x
  obtain ⟨hk, ha, hn, hu, hm', hs, hz, hp, hq⟩ := hok
  dsimp only at *
  have hw : k = 1 ∨ k = 2 ∨ k = 3 ∨ k = 4 ∨ k = 5 ∨ k = 6 ∨ k = 7 ∨ k = 8 ∨ k = 9 ∨ k = 10 ∨ k = 11 ∨ k = 12 ∨ k = 13 ∨ k = 14 := by omega
  rcases hw with rfl | rfl | rfl | rfl | rfl | rfl | rfl | rfl | rfl | rfl | rfl | rfl | rfl | rfl
  · rw [form_1]; exact cmd_1_w a n u m s o b z p q w _ rfl ha hn hu hm' hs hz hp hq hM
  · rw [form_2]; exact cmd_2_w a n u m s o b z p q w _ rfl ha hn hu hm' hs hz hp hq hM
  · rw [form_3]; exact cmd_3_w a n u m s o b z p q w _ rfl ha hn hu hm' hs hz hp hq (h3 rfl) hM
  · rw [form_4]; exact cmd_4_w a n u m s o b z p q w _ rfl ha hn hu hm' hs hz hp hq hM
  · rw [form_5]; exact cmd_5_w a n u m s o b z p q w _ rfl ha hn hu hm' hs hz hp hq hM
  · rw [form_6]; exact cmd_6_w a n u m s o b z p q w _ rfl ha hn hu hm' hs hz hp hq hM
  · rw [form_7]; exact cmd_7_w a n u m s o b z p q w _ rfl ha hn hu hm' hs hz hp hq hM
  · rw [form_8]; exact cmd_8_w a n u m s o b z p q w _ rfl ha hn hu hm' hs hz hp hq hM
  · rw [form_9]; exact cmd_9_w a n u m s o b z p q w _ rfl ha hn hu hm' hs hz hp hq hM
  · rw [form_10]; exact cmd_10_w a n u m s o b z p q w _ rfl ha hn hu hm' hs hz hp hq hM
  · rw [form_11]; exact cmd_11_w a n u m s o b z p q w _ rfl ha hn hu hm' hs hz hp hq hM
  · rw [form_12]; exact cmd_12_w a n u m s o b z p q w _ rfl ha hn hu hm' hs hz hp hq hM
  · rw [form_13]; exact cmd_13_w a n u m s o b z p q w _ rfl ha hn hu hm' hs hz hp hq hM
  · rw [form_14]; exact cmd_14_w a n u m s o b z p q w _ rfl ha hn hu hm' hs hz hp hq hM
set_option maxRecDepth 100000 in
theorem cmd_no_w (x : Cm) (w : World) (hok : x.ok) (hm : x.mayB = false) : Calls Try.prog 10 #[.agg x.cells] w fun e w' => e = .returned (.tuple #[.slice none 0 0, .int .i64 2]) ∧ Below w.heap.size w w' := by
  have HM := Lib.hid (fun W => (show Calls Try.prog 19 #[.agg x.cells] W fun e w' => e = .returned (.bool false) ∧ Below W.heap.size W w' from by have h := may19_w x hok W; rw [hm] at h; exact h))
  have HX := Lib.hid (CcAt.new w x.cells)
  have HB0 := Lib.hid ((Below.refl w.heap.size w).alloc (Nat.le_refl _) (.cells x.cells 30))
  have hsz : x.cells.size = 35 := rfl
  generalize x.cells = cx at *
  go_enter Try.func10, Try.ntmps10
  go_wp2_with (first
    | (refine wpList_load_cc rfl (.tmp 1) rfl rfl HX.out hsz ?_)
    | (go_at_call 19; (with_reducible refine (HM.out _).mono ?_); rintro r w2 ⟨rfl, hB⟩; have HB2 := Lib.hid (HB0.out.trans (hB.mono HB0.out.size)); clear hB))
  go_ret2
  exact ⟨rfl, HB2.out⟩
/-- The bytes of a command, and the error. -/
def Cm.bytes (x : Cm) : List UInt8 := if x.mayB = true then x.form else []
end Go.Proofs.Ytoflehlkacofjaa
