/- A step's beat; what a step wants in the end. -/
import Derived.Test.YteellfgiejnigaaQnG4
import Derived.Great.BuildSlice
namespace Go.Proofs.Yteellfgiejnigaa
open Go.ChangeShapes Go.WideShapes Go.ChangeAt Go.RowKit
set_option linter.unusedVariables false
section
variable {own own' : Own} {w w' : World} {i p q g t0 : Nat} {who0 : Int} {r : RS.Rf} {x : Ov} {o : RS.Ou} {M : Nat}
theorem StAt.drew (h : StAt own w i p q g t0 who0 r x o) : StAt own w.drew i p q g t0 who0 r x o := h.mv (L := fun _ => False) (Mv.drew _ own w) id id
theorem pulse_eq (r : RS.Rf) (g m : Nat) (hm : m = r.T / 4) (c : Int) (hc : c = max 1 (m : Int)) : (rfc r g).setIfInBounds 11 (.int .i64 c) = rfc r.pulse g := by subst hm; subst hc; rfl
set_option maxRecDepth 100000 in
theorem pulse_w (own : Own) (i p q g t0 : Nat) (who0 : Int) (r : RS.Rf) (x : Ov) (o : RS.Ou) (w : World) (h : StAt own w i p q g t0 who0 r x o) (hT : r.T ≤ 20) :
    Calls Try.prog 112 #[.pointer (some ⟨q, 0, none⟩)] w fun e w' => (∃ v, e = .returned v) ∧ StAt own w' i p q g t0 who0 r.pulse x o ∧ Mv (fun l => l = i) own w own w' := by
  have hq0 : w.cell? ⟨q, 0, none⟩ = some (.pointer (some ⟨p, 0, none⟩)) := h.c 0
  have hp2 : w.cell? ⟨p, 2, none⟩ = some (.int .i64 (r.T : Int)) := h.nd.c 2
  have hp11 : w.cell? ⟨p, 11, none⟩ = some (.int .i64 r.beat) := h.nd.c 11
  have hf := h.nd.frozen 11
  obtain ⟨m, hm⟩ : ∃ m, m = r.T / 4 := ⟨_, rfl⟩
  have e0 : (r.T : Int) / 4 = (m : Int) := by omega
  have e1 : (r.T : Int).tdiv 4 = (m : Int) := by rw [Int.tdiv_eq_ediv_of_nonneg (by omega)]; exact e0
  have e2 : IntKind.i64.wrap (m : Int) = (m : Int) := IntWalk.i64_in _ (by omega)
  have Hm := Lib.hid hm
  have H := Lib.hid h
  clear h hm
  go_enter Try.func112, Try.ntmps112
  go_still_tail 16, (by kernel_rfl)
  change wpList _ _ _ _ _ w.drew
  have HD := Lib.hid H.out.drew
  have HM := Lib.hid (Mv.drew (fun l => l = i) own w)
  have hf' : w.drew.frozen? ⟨p, 11, none⟩ = false := hf
  have hu' : w.drew.cell? ⟨p, 11, none⟩ = some (.int .i64 r.beat) := hp11
  clear H hf hp11 hq0 hp2
  generalize w.drew = w2 at *
  go_wp2
  all_goals
    go_end0
    exact ⟨⟨_, rfl⟩, HD.out.setp 11 _ r.pulse (pulse_eq r g m Hm.out _ (by omega)) rfl rfl rfl, HM.out.trans (Mv.set HD.out.nd.op _)⟩
/-- New blocks may be written. -/
theorem Mv.newRow {L : Nat → Prop} (h : Mv L own w own' w') {N : Nat} (hN : w.heap.size ≤ N) (cs : Array Value) : Mv L own w own' (w'.setRow N cs) :=
  ⟨⟨h.t.os, h.t.tape, h.t.output, by rw [setRow_size]; exact h.t.size, fun b hb hn => (setRow_other w' N b cs (by omega)).trans (h.t.block b hb hn)⟩, h.lab⟩
theorem Mv.newCell {L : Nat → Prop} (h : Mv L own w own' w') {a : Addr} (hN : w.heap.size ≤ a.block) (v : Value) : Mv L own w own' (w'.setCell a v) :=
  ⟨⟨h.t.os, h.t.tape, h.t.output, by simp [World.setCell]; exact h.t.size, fun b hb hn => (Below.heap_setCell _ _ _ _ (by omega)).trans (h.t.block b hb hn)⟩, h.lab⟩
theorem Mv.weak {L L' : Nat → Prop} (h : Mv (fun _ => False) own w own' w') : Mv L own w own' w' := h.mono fun _ e => e.elim
theorem setq_vo (p t0 : Nat) (who0 : Int) (x : Ov) (b : Bool) : (stc p x t0 who0).setIfInBounds 1 (.bool b) = stc p { x with vo := b } t0 who0 := rfl
theorem StAt.vo (h : StAt own w i p q g t0 who0 r x o) (b : Bool) : StAt own (w.setCell ⟨q, 1, none⟩ (.bool b)) i p q g t0 who0 r { x with vo := b } o :=
  h.setq 1 _ { x with vo := b } o (setq_vo _ _ _ _ _) ⟨h.ov.an, h.ov.se, h.ov.ne⟩
/-- What it wants, as it lies in the step. -/
theorem StAt.range (h : StAt own w i p q g t0 who0 r x o) : w.rangeAt q 1 [.bool x.vo, .bool x.sh, .int .u8 x.f0, .int .u64 x.f1, .int .u64 x.f2, .int .u64 x.f3, .int .u64 x.f4, .int .u64 x.f5, .bool x.f6, .slice x.f7p x.f7n x.f7c, .slice x.f8p x.f8n x.f8c, .bool x.cu, .int .u64 x.ke, .slice x.ap x.an x.ac, .slice x.sp x.sn x.sc, .slice x.np x.nn x.nc] := by
  intro j v hv
  rw [h.c]
  have hj : j < 16 := by
    have := (List.getElem?_eq_some_iff.1 hv).1
    simpa using this
  rcases j with _ | _ | _ | _ | _ | _ | _ | _ | _ | _ | _ | _ | _ | _ | _ | _ | j
  all_goals first | exact hv | omega
theorem Mv.same0 {L : Nat → Prop} {own : Own} {w W : World} (hR : RegT.Same w W) : Mv L own w own W :=
  ⟨⟨hR.os, hR.tape, hR.output, by rw [hR.heap]; exact Nat.le_refl _, fun b _ _ => by rw [hR.heap]⟩, fun _ _ => rfl⟩
theorem OvAt.mono7 {own : Own} {w : World} {q : Nat} {x : Ov} {o : RS.Ou} (h : OvAt w (Ft own 7 q) x o) : OvAt w (fun b => own b = 7) x o := (footed_ov _ _).mono h fun b _ e => e.1
/-- What a step tells: the node, and what it wants. -/
def Told (own : Own) (w : World) (L : Nat → Prop) (i p : Nat) (r : RS.Rf) (o : RS.Ou) (e : Ending) (w' : World) : Prop :=
  ∃ x own' g, e = .returned (.agg (Ov.cells x)) ∧ NdAt own' w' i p g r ∧ OvAt w' (fun b => own' b = 7) x o ∧ Mv L own w own' w'
set_option maxRecDepth 100000 in
set_option maxHeartbeats 1000000 in
theorem nddone_w (own : Own) (i p q g t0 : Nat) (who0 : Int) (r : RS.Rf) (x : Ov) (o : RS.Ou) (w : World) (h : StAt own w i p q g t0 who0 r x o) :
    Calls Try.prog 111 #[.pointer (some ⟨q, 0, none⟩)] w (Told own w (fun l => l = 7) i p r o) := by
  have hqs := h.lt
  obtain ⟨w1, hw1⟩ : ∃ w1, w.alloc (.cells #[.bool false, .bool false, .int .u8 0, .int .u64 0, .int .u64 0, .int .u64 0, .int .u64 0, .int .u64 0, .bool false, .slice none 0 0, .slice none 0 0, .bool false, .int .u64 0, .slice none 0 0, .slice none 0 0, .slice none 0 0] 100) = w1 := ⟨_, rfl⟩
  have hm0 := Mv.alloc own w (.cells #[.bool false, .bool false, .int .u8 0, .int .u64 0, .int .u64 0, .int .u64 0, .int .u64 0, .int .u64 0, .bool false, .slice none 0 0, .slice none 0 0, .bool false, .int .u64 0, .slice none 0 0, .slice none 0 0, .slice none 0 0] 100) 9
  have hz := heap_alloc_new w (.cells #[.bool false, .bool false, .int .u8 0, .int .u64 0, .int .u64 0, .int .u64 0, .int .u64 0, .int .u64 0, .bool false, .slice none 0 0, .slice none 0 0, .bool false, .int .u64 0, .slice none 0 0, .slice none 0 0, .slice none 0 0] 100)
  have H := Lib.hid (h.mv hm0 id id)
  rw [hw1] at hm0 hz H
  have HW := Lib.hid hw1
  have HM := Lib.hid hm0
  have HZ := Lib.hid hz
  have Hl := Lib.hid (ext_ge (own := own) (n := w.heap.size) (l := 9) (Nat.le_refl _))
  clear h hm0 hz hw1
  generalize ext own w.heap.size 9 = own1 at *
  have hq0 : w1.cell? ⟨q, 0, none⟩ = some (.pointer (some ⟨p, 0, none⟩)) := H.out.c 0
  have hq17 : w1.cell? ⟨q, 17, none⟩ = some (.int .u64 (t0 : Int)) := H.out.c 17
  have hq18 : w1.cell? ⟨q, 18, none⟩ = some (.int .i64 who0) := H.out.c 18
  have hp3 : w1.cell? ⟨p, 3, none⟩ = some (.int .u64 (r.term : Int)) := H.out.nd.c 3
  have hp4 : w1.cell? ⟨p, 4, none⟩ = some (.int .i64 r.who) := H.out.nd.c 4
  have hq1 : w1.cell? ⟨q, 1, none⟩ = some (.bool x.vo) := H.out.c 1
  have hf := H.out.frozen 1
  have fin : ∀ (w2 : World) (b : Bool), RegT.Same w1 w2 → ∀ (w3 : World), w3 = (w2.setCell ⟨q, 1, none⟩ (.bool b)).setRow w.heap.size ({ x with vo := b } : Ov).cells →
      Told own w (fun l => l = 7) i p r o (.returned (.agg ({ x with vo := b } : Ov).cells)) w3 := by
    intro w2 b hS w3 hw3
    subst hw3
    have h2 := (H.out.mv (L := fun _ => False) (Mv.same0 hS) id id).vo b
    have hlt := Hl.out
    refine ⟨_, own1, g, rfl, h2.nd.move fun bb _ e => ⟨e, setRow_other _ _ _ _ fun e2 => ?_⟩, ((footed_ov _ _).frame h2.ov fun bb e => setRow_other _ _ _ _ fun e2 => ?_).mono7, (((HM.out.weak (L' := fun l => l = 7)).trans (Mv.same0 hS)).trans (Mv.set (a := ⟨q, 1, none⟩) H.out.oq _)).newRow (Nat.le_refl _) _⟩
    · rw [e2, hlt] at e; have := h2.nd.hi; omega
    · have e := e.1; rw [e2, hlt] at e; omega
  by_cases ht : r.term = t0
  · have e1 : ((r.term : Int) != (t0 : Int)) = false := by simp; omega
    have e2 : (r.term != t0) = false := by simp; omega
    by_cases hw : r.who = who0
    · have e3 : (r.who != who0) = false := by simp; omega
      go_enter Try.func111, Try.ntmps111
      go_wp2
      rw [HW.out]
      go_still_tail 30, (by kernel_rfl)
      change wpList _ _ _ _ _ w1.drew
      have HR := Lib.hid (same_drew w1)
      have HD := Lib.hid (H.out.drew.vo false)
      have hq1' : w1.drew.cell? ⟨q, 1, none⟩ = some (.bool x.vo) := hq1
      have hf' : w1.drew.frozen? ⟨q, 1, none⟩ = false := hf
      have hz' : (w1.drew.setCell ⟨q, 1, none⟩ (.bool false)).heap[w.heap.size]? = _ := (Below.heap_setCell _ _ _ _ (by show w.heap.size ≠ q; omega)).trans HZ.out
      have Fin := Lib.hid fin
      clear hq0 hq17 hq18 hp3 hp4 hq1 hf fin HZ
      generalize w1.drew = w2 at *
      have Hz := Lib.hid hz'
      have Hrg := Lib.hid HD.out.range
      clear hz'
      go_wp2_with (first
        | (refine wpList_load_mid rfl 100 (.tmp 35) rfl q 1 rfl _ _ Hrg.out Try.underlying100 rfl (show _ = some 16 by kernel_rfl) ?_)
        | (refine wpList_store_rowTo rfl 100 (.tmp 2) (.tmp 36) rfl rfl _ ({ x with vo := false } : Ov).cells rfl rfl 100 _ Hz.out (show _ = some 16 by kernel_rfl) rfl (by simp [Ov.cells, Value.oneCell']) ?_))
      exact bodyPost_ret (results_cell_row rfl _ _ w.heap.size 100 _ _ _ rfl (setRow_heap _ _ _ _ _ _ Hz.out) Try.underlying100 rfl (show _ = some 16 by kernel_rfl)) rfl (Fin.out w2 false HR.out _ rfl)
    · have e3 : (r.who != who0) = true := by simp; omega
      go_enter Try.func111, Try.ntmps111
      go_wp2
      rw [HW.out]
      go_still_tail 30, (by kernel_rfl)
      change wpList _ _ _ _ _ w1.drew
      have HR := Lib.hid (same_drew w1)
      have HD := Lib.hid (H.out.drew.vo true)
      have hq1' : w1.drew.cell? ⟨q, 1, none⟩ = some (.bool x.vo) := hq1
      have hf' : w1.drew.frozen? ⟨q, 1, none⟩ = false := hf
      have hz' : (w1.drew.setCell ⟨q, 1, none⟩ (.bool true)).heap[w.heap.size]? = _ := (Below.heap_setCell _ _ _ _ (by show w.heap.size ≠ q; omega)).trans HZ.out
      have Fin := Lib.hid fin
      clear hq0 hq17 hq18 hp3 hp4 hq1 hf fin HZ
      generalize w1.drew = w2 at *
      have Hz := Lib.hid hz'
      have Hrg := Lib.hid HD.out.range
      clear hz'
      go_wp2_with (first
        | (refine wpList_load_mid rfl 100 (.tmp 35) rfl q 1 rfl _ _ Hrg.out Try.underlying100 rfl (show _ = some 16 by kernel_rfl) ?_)
        | (refine wpList_store_rowTo rfl 100 (.tmp 2) (.tmp 36) rfl rfl _ ({ x with vo := true } : Ov).cells rfl rfl 100 _ Hz.out (show _ = some 16 by kernel_rfl) rfl (by simp [Ov.cells, Value.oneCell']) ?_))
      exact bodyPost_ret (results_cell_row rfl _ _ w.heap.size 100 _ _ _ rfl (setRow_heap _ _ _ _ _ _ Hz.out) Try.underlying100 rfl (show _ = some 16 by kernel_rfl)) rfl (Fin.out w2 true HR.out _ rfl)
  · have e1 : ((r.term : Int) != (t0 : Int)) = true := by simp; omega
    have e2 : (r.term != t0) = true := by simp; omega
    go_enter Try.func111, Try.ntmps111
    go_wp2
    rw [HW.out]
    apply RegT.wp_region_T rfl 37 30 rfl (by kernel_rfl) RegT.Same RegT.Same.refl RegT.Same.trans
    · apply RegT.T_pure rfl rfl rfl
      · intro W hR; clear hR; go_simp; rfl
      simp only [List.set_cons_succ, List.set_cons_zero, Nat.reduceAdd]
      apply RegT.T_pure rfl rfl rfl
      · intro W hR; clear hR; go_simp; rfl
      simp only [List.set_cons_succ, List.set_cons_zero, Nat.reduceAdd]
      apply RegT.T_pure rfl rfl rfl
      · intro W hR; clear hR; go_simp; rfl
      simp only [List.set_cons_succ, List.set_cons_zero, Nat.reduceAdd]
      apply RegT.T_pure rfl rfl rfl
      · intro W hR; clear hR; go_simp; rfl
      simp only [List.set_cons_succ, List.set_cons_zero, Nat.reduceAdd]
      apply RegT.T_pure rfl rfl rfl
      · intro W hR
        have hc := hR.cell hq0
        clear hR
        go_simp; rfl
      simp only [List.set_cons_succ, List.set_cons_zero, Nat.reduceAdd]
      apply RegT.T_pure rfl rfl rfl
      · intro W hR; clear hR; go_simp; rfl
      simp only [List.set_cons_succ, List.set_cons_zero, Nat.reduceAdd]
      apply RegT.T_pure rfl rfl rfl
      · intro W hR; clear hR; go_simp; rfl
      simp only [List.set_cons_succ, List.set_cons_zero, Nat.reduceAdd]
      apply RegT.T_pure rfl rfl rfl
      · intro W hR
        have hc := hR.cell hp3
        clear hR
        go_simp; rfl
      simp only [List.set_cons_succ, List.set_cons_zero, Nat.reduceAdd]
      apply RegT.T_pure rfl rfl rfl
      · intro W hR; clear hR; go_simp; rfl
      simp only [List.set_cons_succ, List.set_cons_zero, Nat.reduceAdd]
      apply RegT.T_pure rfl rfl rfl
      · intro W hR; clear hR; go_simp; rfl
      simp only [List.set_cons_succ, List.set_cons_zero, Nat.reduceAdd]
      apply RegT.T_pure rfl rfl rfl
      · intro W hR; clear hR; go_simp; rfl
      simp only [List.set_cons_succ, List.set_cons_zero, Nat.reduceAdd]
      apply RegT.T_pure rfl rfl rfl
      · intro W hR
        have hc := hR.cell hq17
        clear hR
        go_simp; rfl
      simp only [List.set_cons_succ, List.set_cons_zero, Nat.reduceAdd]
      apply RegT.T_pure (v := .bool true) rfl rfl rfl
      · intro W hR; clear hR; go_simp
      simp only [List.set_cons_succ, List.set_cons_zero, Nat.reduceAdd]
      apply RegT.T_pure (v := .bool true) rfl rfl rfl
      · intro W hR; clear hR; go_simp
      simp only [List.set_cons_succ, List.set_cons_zero, Nat.reduceAdd]
      apply RegT.T_skip rfl rfl rfl
      simp only [List.set_cons_succ, List.set_cons_zero, Nat.reduceAdd]
      apply RegT.T_skip rfl rfl rfl
      simp only [List.set_cons_succ, List.set_cons_zero, Nat.reduceAdd]
      apply RegT.T_skip rfl rfl rfl
      simp only [List.set_cons_succ, List.set_cons_zero, Nat.reduceAdd]
      apply RegT.T_skip rfl rfl rfl
      simp only [List.set_cons_succ, List.set_cons_zero, Nat.reduceAdd]
      apply RegT.T_skip rfl rfl rfl
      simp only [List.set_cons_succ, List.set_cons_zero, Nat.reduceAdd]
      apply RegT.T_skip rfl rfl rfl
      simp only [List.set_cons_succ, List.set_cons_zero, Nat.reduceAdd]
      apply RegT.T_skip rfl rfl rfl
      simp only [List.set_cons_succ, List.set_cons_zero, Nat.reduceAdd]
      apply RegT.T_skip rfl rfl rfl
      simp only [List.set_cons_succ, List.set_cons_zero, Nat.reduceAdd]
      apply RegT.T_skip rfl rfl rfl
      simp only [List.set_cons_succ, List.set_cons_zero, Nat.reduceAdd]
      apply RegT.T_skip rfl rfl rfl
      simp only [List.set_cons_succ, List.set_cons_zero, Nat.reduceAdd]
      apply RegT.T_skip rfl rfl rfl
      simp only [List.set_cons_succ, List.set_cons_zero, Nat.reduceAdd]
      apply RegT.T_skip rfl rfl rfl
      simp only [List.set_cons_succ, List.set_cons_zero, Nat.reduceAdd]
      apply RegT.T_pure (v := .bool true) rfl rfl rfl
      · intro W hR; clear hR; go_simp
      simp only [List.set_cons_succ, List.set_cons_zero, Nat.reduceAdd]
      apply RegT.T_pure rfl rfl rfl
      · intro W hR; clear hR; go_simp; rfl
      simp only [List.set_cons_succ, List.set_cons_zero, Nat.reduceAdd]
      apply RegT.T_pure rfl rfl rfl
      · intro W hR; clear hR; go_simp; rfl
      simp only [List.set_cons_succ, List.set_cons_zero, Nat.reduceAdd]
      apply RegT.T_pure rfl rfl rfl
      · intro W hR; clear hR; go_simp; rfl
      simp only [List.set_cons_succ, List.set_cons_zero, Nat.reduceAdd]
      refine RegT.T_tail (fun W hR hf0 => ?_)
      clear hf0
      have HR := Lib.hid (RegT.Same.trans _ _ _ (same_drew w1) hR)
      have HD := Lib.hid ((H.out.mv (L := fun _ => False) (Mv.same0 HR.out) id id).vo true)
      have hq1' := HR.out.cell hq1
      have hf' := HR.out.frozen hf
      have hz' : (W.setCell ⟨q, 1, none⟩ (.bool true)).heap[w.heap.size]? = _ := (Below.heap_setCell _ _ _ _ (by show w.heap.size ≠ q; omega)).trans ((by rw [HR.out.heap] : W.heap[w.heap.size]? = w1.heap[w.heap.size]?).trans HZ.out)
      have Fin := Lib.hid fin
      clear hq0 hq17 hq18 hp3 hp4 hq1 hf fin HZ hR
      have Hz := Lib.hid hz'
      have Hrg := Lib.hid HD.out.range
      clear hz'
      simp only [List.drop_succ_cons, List.drop_zero]
      go_wp2_with (first
        | (refine wpList_load_mid rfl 100 (.tmp 35) rfl q 1 rfl _ _ Hrg.out Try.underlying100 rfl (show _ = some 16 by kernel_rfl) ?_)
        | (refine wpList_store_rowTo rfl 100 (.tmp 2) (.tmp 36) rfl rfl _ ({ x with vo := true } : Ov).cells rfl rfl 100 _ Hz.out (show _ = some 16 by kernel_rfl) rfl (by simp [Ov.cells, Value.oneCell']) ?_))
      exact bodyPost_ret (results_cell_row rfl _ _ w.heap.size 100 _ _ _ rfl (setRow_heap _ _ _ _ _ _ Hz.out) Try.underlying100 rfl (show _ = some 16 by kernel_rfl)) rfl (Fin.out W true HR.out _ rfl)
    · rfl
    · kernel_rfl
end
end Go.Proofs.Yteellfgiejnigaa
