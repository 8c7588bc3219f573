/- No node: answers alike, the walk. -/
import Derived.Test.YteellfgiejnigaaQnG21
namespace Go.Proofs.Yteellfgiejnigaa
open Go.ChangeShapes Go.WideShapes Go.ChangeAt Go.RowKit
set_option linter.unusedVariables false
section
variable {w w' : World}
/-- The cells of the empty note. -/
def nt0C : List Value := [.int .u8 0, .int .u64 0, .int .u64 0, .int .u64 0, .int .u64 0, .int .u64 0, .bool false, .slice none 0 0, .slice none 0 0]
theorem nt0_same (w : World) : Calls Try.prog 20 #[.agg nt0C.toArray, .agg nt0C.toArray] w fun e w' => e = .returned (.bool true) ∧ Below w.heap.size w w' := by
  have h : NtA w (fun _ => False) (.slice none 0 0) (.slice none 0 0) ⟨0, 0, 0, 0, 0, 0, false, [], []⟩ := by
    refine ⟨EsR.nil _ _, ?_, by decide, by decide, by decide, by decide, by decide, by decide⟩
    exact ⟨(OB.nil _ 0 5).rd, (fun g e _ => by cases e), (fun g e _ => by cases e), (fun b off c e => by cases e)⟩
  exact rnoteSame_w _ _ _ _ _ _ _ _ w h h (by decide)
theorem out0_mid {w : World} {B : Nat} (h : w.heap[B]? = some (.cells out0C 100)) : w.rangeAt B 2 nt0C := fun j x hx => by
  rw [cell_of_row _ _ _ _ _ _ h]
  match j, hx with
  | 0, hx => cases hx; rfl
  | 1, hx => cases hx; rfl
  | 2, hx => cases hx; rfl
  | 3, hx => cases hx; rfl
  | 4, hx => cases hx; rfl
  | 5, hx => cases hx; rfl
  | 6, hx => cases hx; rfl
  | 7, hx => cases hx; rfl
  | 8, hx => cases hx; rfl
/-- A load of the note in the middle, behind a guard. -/
theorem wpList_load_note0 {ops : Array Oper} {rest : List Oper} {o : Oper} {a : Act} {w : World} {Q : Exit → Act → World → Prop} {B : Nat} (hw : Region.wanted o (yielded ops a.tmps) = true) (x : Operand) (ho : o.op = .load 31 x)
    (hx : a.eval x = .pointer (some ⟨B, 2, none⟩)) (h : w.heap[B]? = some (.cells out0C 100)) (k : wpList Try.prog ops Q rest (a.put o.dst (.agg nt0C.toArray)) w) : wpList Try.prog ops Q (o :: rest) a w := by
  unfold wpList
  rw [if_pos hw]
  exact .inl (wp_load_mid 31 x ho B 2 hx nt0C _ (out0_mid h) Try.underlying31 rfl (show _ = some 9 by kernel_rfl) k)
structure O2 (w0 w : World) : Prop where
  a : w.heap[w0.heap.size]? = some (.cells out0C 100)
  b : w.heap[w0.heap.size + 1]? = some (.cells out0C 100)
  bel : Below w0.heap.size w0 w
theorem O2.new (w : World) : O2 w ((w.alloc (.cells out0C 100)).alloc (.cells out0C 100)) := by
  have h1 : (w.alloc (.cells out0C 100)).heap[w.heap.size]? = some (.cells out0C 100) := heap_alloc_new w _
  have h2 := heap_alloc_new (w.alloc (.cells out0C 100)) (.cells out0C 100)
  have hk : Below (w.alloc (.cells out0C 100)).heap.size (w.alloc (.cells out0C 100)) ((w.alloc (.cells out0C 100)).alloc (.cells out0C 100)) := (Below.refl _ _).alloc (Nat.le_refl _) _
  rw [heap_alloc_size] at h2
  exact ⟨by rw [hk.block _ (Array.getElem?_eq_some_iff.1 h1).1]; exact h1, h2, ((Below.refl _ _).alloc (Nat.le_refl _) _).alloc (by rw [heap_alloc_size]; omega) _⟩
theorem O2.on {w0 w w' : World} (h : O2 w0 w) (hB : Below w.heap.size w w') : O2 w0 w' :=
  ⟨by rw [hB.block _ (Array.getElem?_eq_some_iff.1 h.a).1]; exact h.a, by rw [hB.block _ (Array.getElem?_eq_some_iff.1 h.b).1]; exact h.b, h.bel.trans (hB.mono h.bel.size)⟩
theorem O2.ca {w0 w : World} (h : O2 w0 w) (k : Nat) : w.cell? ⟨w0.heap.size, k, none⟩ = out0C[k]? := by rw [cell_of_row _ _ _ _ _ _ h.a]
theorem O2.cb {w0 w : World} (h : O2 w0 w) (k : Nat) : w.cell? ⟨w0.heap.size + 1, k, none⟩ = out0C[k]? := by rw [cell_of_row _ _ _ _ _ _ h.b]
theorem O2.qa0 {w0 w : World} (h : O2 w0 w) : w.cell? ⟨w0.heap.size, 0, none⟩ = some (.bool false) := (h.ca 0).trans rfl
theorem O2.qa1 {w0 w : World} (h : O2 w0 w) : w.cell? ⟨w0.heap.size, 1, none⟩ = some (.bool false) := (h.ca 1).trans rfl
theorem O2.qa11 {w0 w : World} (h : O2 w0 w) : w.cell? ⟨w0.heap.size, 11, none⟩ = some (.bool false) := (h.ca 11).trans rfl
theorem O2.qa12 {w0 w : World} (h : O2 w0 w) : w.cell? ⟨w0.heap.size, 12, none⟩ = some (.int .u64 0) := (h.ca 12).trans rfl
theorem O2.qa13 {w0 w : World} (h : O2 w0 w) : w.cell? ⟨w0.heap.size, 13, none⟩ = some (.slice none 0 0) := (h.ca 13).trans rfl
theorem O2.qa14 {w0 w : World} (h : O2 w0 w) : w.cell? ⟨w0.heap.size, 14, none⟩ = some (.slice none 0 0) := (h.ca 14).trans rfl
theorem O2.qa15 {w0 w : World} (h : O2 w0 w) : w.cell? ⟨w0.heap.size, 15, none⟩ = some (.slice none 0 0) := (h.ca 15).trans rfl
theorem O2.qb0 {w0 w : World} (h : O2 w0 w) : w.cell? ⟨w0.heap.size + 1, 0, none⟩ = some (.bool false) := (h.cb 0).trans rfl
theorem O2.qb1 {w0 w : World} (h : O2 w0 w) : w.cell? ⟨w0.heap.size + 1, 1, none⟩ = some (.bool false) := (h.cb 1).trans rfl
theorem O2.qb11 {w0 w : World} (h : O2 w0 w) : w.cell? ⟨w0.heap.size + 1, 11, none⟩ = some (.bool false) := (h.cb 11).trans rfl
theorem O2.qb12 {w0 w : World} (h : O2 w0 w) : w.cell? ⟨w0.heap.size + 1, 12, none⟩ = some (.int .u64 0) := (h.cb 12).trans rfl
theorem O2.qb13 {w0 w : World} (h : O2 w0 w) : w.cell? ⟨w0.heap.size + 1, 13, none⟩ = some (.slice none 0 0) := (h.cb 13).trans rfl
theorem O2.qb14 {w0 w : World} (h : O2 w0 w) : w.cell? ⟨w0.heap.size + 1, 14, none⟩ = some (.slice none 0 0) := (h.cb 14).trans rfl
theorem O2.qb15 {w0 w : World} (h : O2 w0 w) : w.cell? ⟨w0.heap.size + 1, 15, none⟩ = some (.slice none 0 0) := (h.cb 15).trans rfl
set_option maxRecDepth 100000 in
set_option maxHeartbeats 2000000 in
theorem sameout_w (w : World) : Calls Try.prog 57 #[out0, out0] w fun e w' => e = .returned (.bool true) ∧ Below w.heap.size w w' := by
  obtain ⟨o, ho⟩ : ∃ o, out0 = Value.agg o := ⟨_, rfl⟩
  have hoC : out0C = o := by unfold out0 at ho; cases ho; rfl
  have HO := Lib.hid (O2.new w)
  rw [hoC] at HO
  rw [ho]
  clear ho
  go_enter Try.func57, Try.ntmps57
  generalize hw2 : (w.alloc (.cells o 100)).alloc (.cells o 100) = w2 at *
  have qa0 := HO.out.qa0; have qa1 := HO.out.qa1; have qa11 := HO.out.qa11; have qa12 := HO.out.qa12; have qa13 := HO.out.qa13; have qa14 := HO.out.qa14; have qa15 := HO.out.qa15; have qb0 := HO.out.qb0; have qb1 := HO.out.qb1; have qb11 := HO.out.qb11; have qb12 := HO.out.qb12; have qb13 := HO.out.qb13; have qb14 := HO.out.qb14; have qb15 := HO.out.qb15
  go_wp2_with (first
    | (refine wpList_load_note0 rfl (.tmp 20) rfl rfl HO.out.a ?_)
    | (refine wpList_load_note0 rfl (.tmp 22) rfl rfl HO.out.b ?_)
    | (go_at_call 20; refine (nt0_same _).mono ?_; rintro r w1 ⟨rfl, hB⟩; clear qa0 qa1 qa11 qa12 qa13 qa14 qa15 qb0 qb1 qb11 qb12 qb13 qb14 qb15; have HO := Lib.hid (HO.out.on hB); clear hB; have qa0 := HO.out.qa0; have qa1 := HO.out.qa1; have qa11 := HO.out.qa11; have qa12 := HO.out.qa12; have qa13 := HO.out.qa13; have qa14 := HO.out.qa14; have qa15 := HO.out.qa15; have qb0 := HO.out.qb0; have qb1 := HO.out.qb1; have qb11 := HO.out.qb11; have qb12 := HO.out.qb12; have qb13 := HO.out.qb13; have qb14 := HO.out.qb14; have qb15 := HO.out.qb15)
    | (go_at_call 29; refine (same_w (fun _ => False) (fun _ => False) _ _ [] [] _ (EsR.nil _ _) (EsR.nil _ _) (by decide)).mono ?_; rintro r w1 ⟨rfl, hB⟩; clear qa0 qa1 qa11 qa12 qa13 qa14 qa15 qb0 qb1 qb11 qb12 qb13 qb14 qb15; have HO := Lib.hid (HO.out.on hB); clear hB; have qa0 := HO.out.qa0; have qa1 := HO.out.qa1; have qa11 := HO.out.qa11; have qa12 := HO.out.qa12; have qa13 := HO.out.qa13; have qa14 := HO.out.qa14; have qa15 := HO.out.qa15; have qb0 := HO.out.qb0; have qb1 := HO.out.qb1; have qb11 := HO.out.qb11; have qb12 := HO.out.qb12; have qb13 := HO.out.qb13; have qb14 := HO.out.qb14; have qb15 := HO.out.qb15))
  clear qa0 qa1 qa11 qa12 qa13 qa14 qa15 qb0 qb1 qb11 qb12 qb13 qb14 qb15
  go_loopw [5] (fun i wr => i = .int .i64 0 ∧ Hid (O2 w wr)) (fun _ _ => 0)
  case atStart => exact ⟨rfl, HO⟩
  case round =>
    obtain ⟨rfl, HO⟩ := hrel
    have qa14 := HO.out.qa14
    go_wp2
    clear qa14
    go_loopw [6] (fun i wr => i = .int .i64 0 ∧ Hid (O2 w wr)) (fun _ _ => 0)
    case atStart => exact ⟨rfl, HO⟩
    case round =>
      obtain ⟨rfl, HO⟩ := hrel
      have qa15 := HO.out.qa15
      go_wp2
      go_ret
      exact ⟨rfl, HO.out.bel⟩
end
end Go.Proofs.Yteellfgiejnigaa
