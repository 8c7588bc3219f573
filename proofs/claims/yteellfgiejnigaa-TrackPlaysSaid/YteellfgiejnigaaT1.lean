/- Tracks as they lie; walks of bytes.Clone, copied and last. -/
import Derived.Test.YteellfgiejnigaaT0
import Derived.Test.YteellfgiejnigaaReg2
import Derived.Test.YteellfgiejnigaaRows
import Derived.WalkKit
import Derived.ProofKit
import Derived.OpenShut
import Derived.Lib.Hide
import Derived.Below
import Derived.Great.BuildSlice
import Derived.Deep.MidRow
import Derived.Deep.QuietTactic
import Derived.BigQuiet
import Derived.Laws.Cover3
namespace Go.Proofs.Yteellfgiejnigaa
open Go.ChangeShapes Go.WideShapes Go.ChangeAt Go.RowKit
set_option linter.unusedVariables false

theorem hel : Elem Try.prog 29 5 (.int .u8 0) 1 1 := ⟨Try.underlying29, by kernel_rfl, rfl, by decide⟩
def zEnt : Value := .agg #[.int .u64 0, .slice none 0 0]
theorem helE : Elem Try.prog 28 53 zEnt 2 32 := ⟨Try.underlying28, by kernel_rfl, rfl, by decide⟩
theorem hz53 : ((Try.prog.info? 53).bind (·.zero)).map Value.cells = some #[.int .u64 0, .slice none 0 0] := by kernel_rfl

theorem eql29 (a : Option Addr) (n c : Nat) (w : World) : (binOp .eql 29 (.slice a n c) (.slice none 0 0)).run Try.prog w = .ok (.bool a.isNone) w := by
  simp only [binOp]
  simp [run_equal_slice_nil (P := Try.prog) w 29 5 a n c Try.underlying29]
set_option maxRecDepth 100000 in
theorem clone_w (d : Value) (l : List UInt8) (w : World) (hd : RdB w d l) (hl : l.length ≤ 140737488355328) :
    Calls Try.prog 124 #[d] w fun e w' => ∃ p c, e = .returned (.slice p l.length c) ∧ DatA w' (fun b => w.heap.size ≤ b) (.slice p l.length c) l ∧ Below w.heap.size w w' := by
  have H := Lib.hid hd
  obtain ⟨p, c, rfl, hp⟩ := hd
  cases p with
  | none =>
    have hc := hp.1 rfl
    have hle := hp.2.1
    have hl0 : l = [] := List.eq_nil_of_length_eq_zero (by omega)
    subst hl0
    clear hp hl H
    have he := fun n c w => eql29 none n c w
    go_enter Try.func124, Try.ntmps124
    go_wp2
    go_ret
    exact ⟨none, 0, rfl, ⟨(OB.nil w 0 5).rd, (fun g e _ => by cases e), (fun g e _ => by cases e), (fun b off c e => by cases e)⟩, Below.refl _ _⟩
  | some a =>
    have H1 := Lib.hid (OB.new w 5)
    have H2 := Lib.hid (H.out.keeps ((Keeps.refl w).alloc (.cells #[] 5)))
    clear hp
    have he := fun n c w => eql29 (some a) n c w
    go_enter Try.func124, Try.ntmps124
    go_wp2_with (refine wpList_append_bytes rfl (.tmp 5) (.tmp 6) 29 rfl hel rfl H1.out rfl H2.out (by simp; omega) (by simp) ?_; intro p1 n1 c1 w1 hn1 ho1 hg1; have Hn1 := Lib.hid hn1; have Ho1 := Lib.hid ho1; have HB1 := Lib.hid (((Below.refl w.heap.size w).alloc (Nat.le_refl _) _).trans (below_own H1.out hg1 (by simp))); clear hn1 ho1 hg1)
    go_ret
    have hn := Hn1.out
    rw [List.nil_append] at hn
    subst hn
    have ho := Ho1.out
    rw [List.nil_append] at ho
    exact ⟨p1, c1, rfl, ⟨ho.rd, fun g e _ => (ho.lt g e).1, fun g e _ => (ho.lt g e).2, fun b off c e i hi => by
      obtain ⟨g, hg, _⟩ := OB.some ho (by omega)
      subst hg
      cases e
      rw [Nat.zero_add]
      exact (ho.cell rfl hi).2.1⟩, HB1.out⟩

/-- An entry lies at block N. -/
def EntAt (w : World) (N : Nat) (t : Nat) (d : Value) : Prop := w.heap[N]? = some (.cells #[.int .u64 (t : Int), d] 53)
theorem EntAt.new (w : World) (t : Nat) (d : Value) : EntAt (w.alloc (.cells #[.int .u64 (t : Int), d] 53)) w.heap.size t d := heap_alloc_new w _
theorem EntAt.lt {w : World} {N t : Nat} {d : Value} (h : EntAt w N t d) : N < w.heap.size := (Array.getElem?_eq_some_iff.1 h).1
theorem EntAt.keeps {w w' : World} {N t : Nat} {d : Value} (h : EntAt w N t d) (hk : Keeps w w') : EntAt w' N t d := by unfold EntAt; rw [hk N h.lt]; exact h
theorem EntAt.at1 {w : World} {N t : Nat} {d : Value} (h : EntAt w N t d) : w.cell? ⟨N, 1, none⟩ = some d := by rw [cell_of_row _ _ _ _ _ _ h]; rfl
theorem EntAt.at0 {w : World} {N t : Nat} {d : Value} (h : EntAt w N t d) : w.cell? ⟨N, 0, none⟩ = some (.int .u64 (t : Int)) := by rw [cell_of_row _ _ _ _ _ _ h]; rfl
theorem EntAt.frozen {w : World} {N t : Nat} {d : Value} (h : EntAt w N t d) (k : Nat) : w.frozen? ⟨N, k, none⟩ = false := by
  unfold EntAt at h
  simp [World.frozen?, h]
theorem EntAt.put1 {w : World} {N t : Nat} {d : Value} (h : EntAt w N t d) (d' : Value) : EntAt (w.setCell ⟨N, 1, none⟩ d') N t d' := by
  unfold EntAt at *
  simp only [World.setCell, Array.getElem?_modify, h, if_true, Option.map_some]
  rfl
theorem ent_one (t : Nat) (p : Option Addr) (n c : Nat) : (#[Value.int .u64 (t : Int), .slice p n c]).all (·.oneCell') = true := by simp [Value.oneCell']

set_option maxRecDepth 100000 in
theorem copied_w (t : Nat) (d : Value) (l : List UInt8) (w : World) (hd : RdB w d l) (hl : l.length ≤ 140737488355328) :
    Calls Try.prog 78 #[.agg #[.int .u64 (t : Int), d]] w fun e w' => ∃ p c, e = .returned (.agg #[.int .u64 (t : Int), .slice p l.length c]) ∧ DatA w' (fun b => w.heap.size ≤ b) (.slice p l.length c) l ∧ Below w.heap.size w w' := by
  have hE := EntAt.new w t d
  have hZ := heap_alloc_new (w.alloc (.cells #[.int .u64 (t : Int), d] 53)) (.cells #[.int .u64 0, .slice none 0 0] 53)
  have hE2 := hE.keeps ((Keeps.refl (w.alloc (.cells #[.int .u64 (t : Int), d] 53))).alloc (.cells #[.int .u64 0, .slice none 0 0] 53))
  have hB2 := ((Below.refl w.heap.size w).alloc (Nat.le_refl _) (.cells #[.int .u64 (t : Int), d] 53)).alloc (by simp) (.cells #[.int .u64 0, .slice none 0 0] 53)
  have hd2 := hd.below hB2
  have hs1 : (w.alloc (.cells #[.int .u64 (t : Int), d] 53)).heap.size = w.heap.size + 1 := heap_alloc_size _ _
  have hs2 : w.heap.size + 1 < ((w.alloc (.cells #[.int .u64 (t : Int), d] 53)).alloc (.cells #[.int .u64 0, .slice none 0 0] 53)).heap.size := by rw [heap_alloc_size, hs1]; omega
  rw [hs1] at hZ
  have c1 := hE2.at1
  have HE := Lib.hid hE2
  have HZ := Lib.hid hZ
  have HB := Lib.hid hB2
  have HD := Lib.hid hd2
  have HS := Lib.hid hs2
  clear hE hZ hE2 hB2 hd2 hs1 hd hs2
  go_enter Try.func78, Try.ntmps78
  go_wp2_with (first
    | (refine wpList_alloc_zero rfl 53 rfl _ hz53 ?_)
    | (go_at_call 124
       refine (clone_w d l _ HD.out hl).mono ?_
       rintro r w3 ⟨p, c, rfl, hd', hB⟩
       have HE3 := Lib.hid (HE.out.keeps hB.block)
       have HZ3 := Lib.hid ((hB.block _ HS.out).trans HZ.out)
       have HB3 := Lib.hid (HB.out.trans (hB.mono HB.out.size))
       have hc3 := HE3.out.at1
       have hf3 := HE3.out.frozen 1
       have HE4 := Lib.hid (HE3.out.put1 (.slice p l.length c))
       have HZ4 := Lib.hid (show (w3.setCell ⟨w.heap.size, 1, none⟩ (.slice p l.length c)).heap[w.heap.size + 1]? = some (.cells #[.int .u64 0, .slice none 0 0] 53) by rw [Below.heap_setCell _ _ _ _ (by simp)]; exact HZ3.out)
       have HD3 := Lib.hid hd'
       clear hd' hB)
    | (refine wpList_load_row rfl 53 (.tmp 1) rfl _ rfl _ _ _ _ HE4.out Try.underlying53 rfl (show _ = some 2 by kernel_rfl) ?_)
    | (refine wpList_store_rowTo rfl 53 (.tmp 2) (.tmp 7) rfl rfl (w.heap.size + 1) #[.int .u64 (t : Int), .slice p l.length c] (by first | rfl | exact congrArg (fun k => Value.pointer (some ⟨k, 0, none⟩)) (heap_alloc_size w _)) rfl 53 #[.int .u64 0, .slice none 0 0] HZ4.out (show _ = some 2 by kernel_rfl) rfl (ent_one _ _ _ _) ?_))
  have hres := setRow_heap _ (w.heap.size + 1) _ #[.int .u64 (t : Int), .slice p l.length c] _ _ HZ4.out
  refine bodyPost_ret (v := .agg #[.int .u64 (t : Int), .slice p l.length c]) (results_cell_row rfl _ _ (w.heap.size + 1) 53 _ _ _ (by first | rfl | exact congrArg (fun k => Value.pointer (some ⟨k, 0, none⟩)) (heap_alloc_size w _)) hres Try.underlying53 rfl (show _ = some 2 by kernel_rfl)) rfl ?_
  have hs := HS.out
  have hsm : SameOn (fun b => ((w.alloc (.cells #[.int .u64 (t : Int), d] 53)).alloc (.cells #[.int .u64 0, .slice none 0 0] 53)).heap.size ≤ b) w3
      ((w3.setCell ⟨w.heap.size, 1, none⟩ (.slice p l.length c)).setRow (w.heap.size + 1) #[.int .u64 (t : Int), .slice p l.length c]) := fun b hb => by
    have hb' : ((w.alloc (.cells #[.int .u64 (t : Int), d] 53)).alloc (.cells #[.int .u64 0, .slice none 0 0] 53)).heap.size ≤ b := hb
    rw [setRow_other _ _ _ _ (by omega), Below.heap_setCell _ _ _ _ (by simp; omega)]
  refine ⟨p, c, rfl, (HD3.out.frame hsm).mono fun b _ hb => ?_, ?_⟩
  · have hb' : ((w.alloc (.cells #[.int .u64 (t : Int), d] 53)).alloc (.cells #[.int .u64 0, .slice none 0 0] 53)).heap.size ≤ b := hb
    omega
  · exact (HB3.out.setCell (p := ⟨w.heap.size, 1, none⟩) (Nat.le_refl _) _).trans ⟨rfl, rfl, rfl, by simp, fun k hk => setRow_other _ _ _ _ (by omega)⟩
end Go.Proofs.Yteellfgiejnigaa
