/- RaftSafe: G5, G6. -/
import Derived.Test.YteellfgiejnigaaQtA00
import Derived.Test.YteellfgiejnigaaQtA11
import Derived.Great.BuildSlice
namespace Go.Proofs.Yteellfgiejnigaa
open Go.ChangeShapes Go.WideShapes Go.ChangeAt Go.RowKit
set_option linter.unusedVariables false
section
variable {own own' : Own} {w w' : World} {i p q g t0 : Nat} {who0 : Int} {r : RS.Rf} {x : Ov} {o : RS.Ou} {M : Nat}
theorem StAt.drew (h : StAt own w i p q g t0 who0 r x o) : StAt own w.drew i p q g t0 who0 r x o := h.mv (L := fun _ => False) (Mv.drew _ own w) id id
theorem pulse_eq (r : RS.Rf) (g m : Nat) (hm : m = r.T / 4) (c : Int) (hc : c = max 1 (m : Int)) : (rfc r g).setIfInBounds 11 (.int .i64 c) = rfc r.pulse g := by subst hm; subst hc; rfl
set_option maxRecDepth 100000 in
theorem pulse_w (own : Own) (i p q g t0 : Nat) (who0 : Int) (r : RS.Rf) (x : Ov) (o : RS.Ou) (w : World) (h : StAt own w i p q g t0 who0 r x o) (hT : r.T ≤ 20) :
 Calls Try.prog 112 #[.pointer (some ⟨q, 0, none⟩)] w fun e w' => (∃ v, e = .returned v) ∧ StAt own w' i p q g t0 who0 r.pulse x o ∧ Mv (fun l => l = i) own w own w' := by
 have hq0 : w.cell? ⟨q, 0, none⟩ = some (.pointer (some ⟨p, 0, none⟩)) := h.c 0
 have hp2 : w.cell? ⟨p, 2, none⟩ = some (.int .i64 (r.T : Int)) := h.nd.c 2
 have hp11 : w.cell? ⟨p, 11, none⟩ = some (.int .i64 r.beat) := h.nd.c 11
 have hf := h.nd.frozen 11
 obtain ⟨m, hm⟩ : ∃ m, m = r.T / 4 := ⟨_, rfl⟩
 have e0 : (r.T : Int) / 4 = (m : Int) := by omega
 have e1 : (r.T : Int).tdiv 4 = (m : Int) := by rw [Int.tdiv_eq_ediv_of_nonneg (by omega)]; exact e0
 have e2 : IntKind.i64.wrap (m : Int) = (m : Int) := IntWalk.i64_in _ (by omega)
 have Hm := zh hm
 have H := zh h
 clear h hm
 go_enter Try.func112, Try.ntmps112
 go_still_tail 16, (by kernel_rfl)
 change wpList _ _ _ _ _ w.drew
 have HD := zh H.out.drew
 have HM := zh (Mv.drew (fun l => l = i) own w)
 have hf' : w.drew.frozen? ⟨p, 11, none⟩ = false := hf
 have hu' : w.drew.cell? ⟨p, 11, none⟩ = some (.int .i64 r.beat) := hp11
 clear H hf hp11 hq0 hp2
 generalize w.drew = w2 at *
 go_wp2
 all_goals
  go_end0
  exact ⟨⟨_, rfl⟩, HD.out.setp 11 _ r.pulse (pulse_eq r g m Hm.out _ (by omega)) rfl rfl rfl, HM.out.trans (Mv.set HD.out.nd.op _)⟩
theorem Mv.newRow {L : Nat → Prop} (h : Mv L own w own' w') {N : Nat} (hN : w.heap.size ≤ N) (cs : Array Value) : Mv L own w own' (w'.setRow N cs) :=
 ⟨⟨h.t.os, h.t.tape, h.t.output, by rw [setRow_size]; exact h.t.size, fun b hb hn => (setRow_other w' N b cs (by omega)).trans (h.t.block b hb hn)⟩, h.lab⟩
theorem Mv.newCell {L : Nat → Prop} (h : Mv L own w own' w') {a : Addr} (hN : w.heap.size ≤ a.block) (v : Value) : Mv L own w own' (w'.setCell a v) :=
 ⟨⟨h.t.os, h.t.tape, h.t.output, by simp [World.setCell]; exact h.t.size, fun b hb hn => (Below.heap_setCell _ _ _ _ (by omega)).trans (h.t.block b hb hn)⟩, h.lab⟩
theorem Mv.weak {L L' : Nat → Prop} (h : Mv (fun _ => False) own w own' w') : Mv L own w own' w' := h.mono fun _ e => e.elim
theorem setq_vo (p t0 : Nat) (who0 : Int) (x : Ov) (b : Bool) : (stc p x t0 who0).setIfInBounds 1 (.bool b) = stc p { x with vo := b } t0 who0 := rfl
theorem StAt.vo (h : StAt own w i p q g t0 who0 r x o) (b : Bool) : StAt own (w.setCell ⟨q, 1, none⟩ (.bool b)) i p q g t0 who0 r { x with vo := b } o :=
 h.setq 1 _ { x with vo := b } o (setq_vo _ _ _ _ _) ⟨h.ov.an, h.ov.se, h.ov.ne⟩
theorem StAt.range (h : StAt own w i p q g t0 who0 r x o) : w.rangeAt q 1 [.bool x.vo, .bool x.sh, .int .u8 x.f0, .int .u64 x.f1, .int .u64 x.f2, .int .u64 x.f3, .int .u64 x.f4, .int .u64 x.f5, .bool x.f6, .slice x.f7p x.f7n x.f7c, .slice x.f8p x.f8n x.f8c, .bool x.cu, .int .u64 x.ke, .slice x.ap x.an x.ac, .slice x.sp x.sn x.sc, .slice x.np x.nn x.nc] := by
 intro j v hv
 rw [h.c]
 have hj : j < 16 := by
  have := (List.getElem?_eq_some_iff.1 hv).1
  simpa using this
 rcases j with _ | _ | _ | _ | _ | _ | _ | _ | _ | _ | _ | _ | _ | _ | _ | _ | j
 all_goals first | exact hv | omega
theorem Mv.same0 {L : Nat → Prop} {own : Own} {w W : World} (hR : RegT.Same w W) : Mv L own w own W :=
 ⟨⟨hR.os, hR.tape, hR.output, by rw [hR.heap]; exact Nat.le_refl _, fun b _ _ => by rw [hR.heap]⟩, fun _ _ => rfl⟩
theorem OvAt.mono7 {own : Own} {w : World} {q : Nat} {x : Ov} {o : RS.Ou} (h : OvAt w (Ft own 7 q) x o) : OvAt w (fun b => own b = 7) x o := (footed_ov _ _).mono h fun b _ e => e.1
def Told (own : Own) (w : World) (L : Nat → Prop) (i p : Nat) (r : RS.Rf) (o : RS.Ou) (e : Ending) (w' : World) : Prop :=
 ∃ x own' g, e = .returned (.agg (Ov.cells x)) ∧ NdAt own' w' i p g r ∧ OvAt w' (fun b => own' b = 7) x o ∧ Mv L own w own' w'
set_option maxRecDepth 100000 in
set_option maxHeartbeats 1000000 in
theorem nddone_w (own : Own) (i p q g t0 : Nat) (who0 : Int) (r : RS.Rf) (x : Ov) (o : RS.Ou) (w : World) (h : StAt own w i p q g t0 who0 r x o) :
 Calls Try.prog 111 #[.pointer (some ⟨q, 0, none⟩)] w (Told own w (fun l => l = 7) i p r o) := by
 have hqs := h.lt
 obtain ⟨w1, hw1⟩ : ∃ w1, w.alloc (.cells #[.bool false, .bool false, .int .u8 0, .int .u64 0, .int .u64 0, .int .u64 0, .int .u64 0, .int .u64 0, .bool false, .slice none 0 0, .slice none 0 0, .bool false, .int .u64 0, .slice none 0 0, .slice none 0 0, .slice none 0 0] 100) = w1 := ⟨_, rfl⟩
 have hm0 := Mv.alloc own w (.cells #[.bool false, .bool false, .int .u8 0, .int .u64 0, .int .u64 0, .int .u64 0, .int .u64 0, .int .u64 0, .bool false, .slice none 0 0, .slice none 0 0, .bool false, .int .u64 0, .slice none 0 0, .slice none 0 0, .slice none 0 0] 100) 9
 have hz := heap_alloc_new w (.cells #[.bool false, .bool false, .int .u8 0, .int .u64 0, .int .u64 0, .int .u64 0, .int .u64 0, .int .u64 0, .bool false, .slice none 0 0, .slice none 0 0, .bool false, .int .u64 0, .slice none 0 0, .slice none 0 0, .slice none 0 0] 100)
 have H := zh (h.mv hm0 id id)
 rw [hw1] at hm0 hz H
 have HW := zh hw1
 have HM := zh hm0
 have HZ := zh hz
 have Hl := zh (ext_ge (own := own) (n := w.heap.size) (l := 9) (Nat.le_refl _))
 clear h hm0 hz hw1
 generalize ext own w.heap.size 9 = own1 at *
 have hq0 : w1.cell? ⟨q, 0, none⟩ = some (.pointer (some ⟨p, 0, none⟩)) := H.out.c 0
 have hq17 : w1.cell? ⟨q, 17, none⟩ = some (.int .u64 (t0 : Int)) := H.out.c 17
 have hq18 : w1.cell? ⟨q, 18, none⟩ = some (.int .i64 who0) := H.out.c 18
 have hp3 : w1.cell? ⟨p, 3, none⟩ = some (.int .u64 (r.term : Int)) := H.out.nd.c 3
 have hp4 : w1.cell? ⟨p, 4, none⟩ = some (.int .i64 r.who) := H.out.nd.c 4
 have hq1 : w1.cell? ⟨q, 1, none⟩ = some (.bool x.vo) := H.out.c 1
 have hf := H.out.frozen 1
 have fin : ∀ (w2 : World) (b : Bool), RegT.Same w1 w2 → ∀ (w3 : World), w3 = (w2.setCell ⟨q, 1, none⟩ (.bool b)).setRow w.heap.size ({ x with vo := b } : Ov).cells →
  Told own w (fun l => l = 7) i p r o (.returned (.agg ({ x with vo := b } : Ov).cells)) w3 := by
  intro w2 b hS w3 hw3
  subst hw3
  have h2 := (H.out.mv (L := fun _ => False) (Mv.same0 hS) id id).vo b
  have hlt := Hl.out
  refine ⟨_, own1, g, rfl, h2.nd.move fun bb _ e => ⟨e, setRow_other _ _ _ _ fun e2 => ?_⟩, ((footed_ov _ _).frame h2.ov fun bb e => setRow_other _ _ _ _ fun e2 => ?_).mono7, (((HM.out.weak (L' := fun l => l = 7)).trans (Mv.same0 hS)).trans (Mv.set (a := ⟨q, 1, none⟩) H.out.oq _)).newRow (Nat.le_refl _) _⟩
  · rw [e2, hlt] at e; have := h2.nd.hi; omega
  · have e := e.1; rw [e2, hlt] at e; omega
 by_cases ht : r.term = t0
 · have e1 : ((r.term : Int) != (t0 : Int)) = false := by simp; omega
   have e2 : (r.term != t0) = false := by simp; omega
   by_cases hw : r.who = who0
   · have e3 : (r.who != who0) = false := by simp; omega
     go_enter Try.func111, Try.ntmps111
     go_wp2
     rw [HW.out]
     go_still_tail 30, (by kernel_rfl)
     change wpList _ _ _ _ _ w1.drew
     have HR := zh (same_drew w1)
     have HD := zh (H.out.drew.vo false)
     have hq1' : w1.drew.cell? ⟨q, 1, none⟩ = some (.bool x.vo) := hq1
     have hf' : w1.drew.frozen? ⟨q, 1, none⟩ = false := hf
     have hz' : (w1.drew.setCell ⟨q, 1, none⟩ (.bool false)).heap[w.heap.size]? = _ := (Below.heap_setCell _ _ _ _ (by show w.heap.size ≠ q; omega)).trans HZ.out
     have Fin := zh fin
     clear hq0 hq17 hq18 hp3 hp4 hq1 hf fin HZ
     generalize w1.drew = w2 at *
     have Hz := zh hz'
     have Hrg := zh HD.out.range
     clear hz'
     go_wp2_with (first
      | (refine wpList_load_mid rfl 100 (.tmp 35) rfl q 1 rfl _ _ Hrg.out Try.underlying100 rfl (show _ = some 16 by kernel_rfl) ?_)
      | (refine wpList_store_rowTo rfl 100 (.tmp 2) (.tmp 36) rfl rfl _ ({ x with vo := false } : Ov).cells rfl rfl 100 _ Hz.out (show _ = some 16 by kernel_rfl) rfl (by simp [Ov.cells, Value.oneCell']) ?_))
     exact bodyPost_ret (results_cell_row rfl _ _ w.heap.size 100 _ _ _ rfl (setRow_heap _ _ _ _ _ _ Hz.out) Try.underlying100 rfl (show _ = some 16 by kernel_rfl)) rfl (Fin.out w2 false HR.out _ rfl)
   · have e3 : (r.who != who0) = true := by simp; omega
     go_enter Try.func111, Try.ntmps111
     go_wp2
     rw [HW.out]
     go_still_tail 30, (by kernel_rfl)
     change wpList _ _ _ _ _ w1.drew
     have HR := zh (same_drew w1)
     have HD := zh (H.out.drew.vo true)
     have hq1' : w1.drew.cell? ⟨q, 1, none⟩ = some (.bool x.vo) := hq1
     have hf' : w1.drew.frozen? ⟨q, 1, none⟩ = false := hf
     have hz' : (w1.drew.setCell ⟨q, 1, none⟩ (.bool true)).heap[w.heap.size]? = _ := (Below.heap_setCell _ _ _ _ (by show w.heap.size ≠ q; omega)).trans HZ.out
     have Fin := zh fin
     clear hq0 hq17 hq18 hp3 hp4 hq1 hf fin HZ
     generalize w1.drew = w2 at *
     have Hz := zh hz'
     have Hrg := zh HD.out.range
     clear hz'
     go_wp2_with (first
      | (refine wpList_load_mid rfl 100 (.tmp 35) rfl q 1 rfl _ _ Hrg.out Try.underlying100 rfl (show _ = some 16 by kernel_rfl) ?_)
      | (refine wpList_store_rowTo rfl 100 (.tmp 2) (.tmp 36) rfl rfl _ ({ x with vo := true } : Ov).cells rfl rfl 100 _ Hz.out (show _ = some 16 by kernel_rfl) rfl (by simp [Ov.cells, Value.oneCell']) ?_))
     exact bodyPost_ret (results_cell_row rfl _ _ w.heap.size 100 _ _ _ rfl (setRow_heap _ _ _ _ _ _ Hz.out) Try.underlying100 rfl (show _ = some 16 by kernel_rfl)) rfl (Fin.out w2 true HR.out _ rfl)
 · have e1 : ((r.term : Int) != (t0 : Int)) = true := by simp; omega
   have e2 : (r.term != t0) = true := by simp; omega
   go_enter Try.func111, Try.ntmps111
   go_wp2
   rw [HW.out]
   apply RegT.wp_region_T rfl 37 30 rfl (by kernel_rfl) RegT.Same RegT.Same.refl RegT.Same.trans
   ·
    iterate 12
     apply RegT.T_pure rfl rfl rfl
     · intro W hR; have h0 := hR.cell hq0; have h1 := hR.cell hp3; have h2 := hR.cell hq17; clear hR; go_simp; rfl
     simp only [List.set_cons_succ, List.set_cons_zero, Nat.reduceAdd]
    iterate 2
     apply RegT.T_pure (v := .bool true) rfl rfl rfl
     · intro W hR; clear hR; go_simp
     simp only [List.set_cons_succ, List.set_cons_zero, Nat.reduceAdd]
    iterate 12
     apply RegT.T_skip rfl rfl rfl
     simp only [List.set_cons_succ, List.set_cons_zero, Nat.reduceAdd]
    apply RegT.T_pure (v := .bool true) rfl rfl rfl
    · intro W hR; clear hR; go_simp
    simp only [List.set_cons_succ, List.set_cons_zero, Nat.reduceAdd]
    iterate 3
     apply RegT.T_pure rfl rfl rfl
     · intro W hR; clear hR; go_simp; rfl
     simp only [List.set_cons_succ, List.set_cons_zero, Nat.reduceAdd]
    refine RegT.T_tail (fun W hR hf0 => ?_)
    clear hf0
    have HR := zh (RegT.Same.trans _ _ _ (same_drew w1) hR)
    have HD := zh ((H.out.mv (L := fun _ => False) (Mv.same0 HR.out) id id).vo true)
    have hq1' := HR.out.cell hq1
    have hf' := HR.out.frozen hf
    have hz' : (W.setCell ⟨q, 1, none⟩ (.bool true)).heap[w.heap.size]? = _ := (Below.heap_setCell _ _ _ _ (by show w.heap.size ≠ q; omega)).trans ((by rw [HR.out.heap] : W.heap[w.heap.size]? = w1.heap[w.heap.size]?).trans HZ.out)
    have Fin := zh fin
    clear hq0 hq17 hq18 hp3 hp4 hq1 hf fin HZ hR
    have Hz := zh hz'
    have Hrg := zh HD.out.range
    clear hz'
    simp only [List.drop_succ_cons, List.drop_zero]
    go_wp2_with (first
     | (refine wpList_load_mid rfl 100 (.tmp 35) rfl q 1 rfl _ _ Hrg.out Try.underlying100 rfl (show _ = some 16 by kernel_rfl) ?_)
     | (refine wpList_store_rowTo rfl 100 (.tmp 2) (.tmp 36) rfl rfl _ ({ x with vo := true } : Ov).cells rfl rfl 100 _ Hz.out (show _ = some 16 by kernel_rfl) rfl (by simp [Ov.cells, Value.oneCell']) ?_))
    exact bodyPost_ret (results_cell_row rfl _ _ w.heap.size 100 _ _ _ rfl (setRow_heap _ _ _ _ _ _ Hz.out) Try.underlying100 rfl (show _ = some 16 by kernel_rfl)) rfl (Fin.out W true HR.out _ rfl)
   · rfl
   · kernel_rfl
end
attribute [local go_sem] Oper.semAt_some
def Iter0 (P : Program) (gf : FuncId) (lb : Array Value) (encs : Nat → Array Value) (N : Nat) (Kp : World → World → Prop) (w : World) : Prop :=
 ∀ (l : Nat) (J : Nat → World → Prop) (W : World), Below w.heap.size w W →
  (∀ k W1, J k W1 → k < N → YieldAt Fence.wide 0 P l (encs k) W1 fun e W' => e = .returned (.bool true) ∧ J (k + 1) W' ∧ Kp W1 W') →
  J 0 W → CallsIn Fence.wide 0 P gf (#[.func (.yield l) #[] #[]] ++ lb) W fun e W' => (∃ v, e = .returned v) ∧ J N W'
def roundOn (B : Nat) (Kp : World → World → Prop) (I : Nat → World → Prop) (k : Nat) (W : World) : Exit → Act → World → Prop
 | .normal, _, W' => Recs B W W' ∧ Kp W W' ∧ I (k + 1) W'
 | .exit id, _, _ => False
 | .ret, _, _ => False
 | .goto _, _, _ => False
 | .panic _, _, _ => False
 | .outgrown, _, _ => False
theorem range_law0 {P : Program} {g : Operand} {ps : Array Tmp} {assign body : Code} {Q : Exit → Act → World → Prop} {a : Act} {w : World}
 {gf : FuncId} {lb : Array Value} (hg : a.eval g = .func (.func gf) #[] lb) (eg : ∀ args w, (callFunc gf args).run P w = .ok (.enter gf args) w)
 {encs : Nat → Array Value} {N : Nat} {Kp : World → World → Prop} (hseq : Iter0 P gf lb encs N Kp w) (hps : ∀ k, (encs k).size = ps.size)
 (hKt : ∀ {A B C : World}, Kp A B → Kp B C → Kp A C) (hKb : ∀ (W : World) (l : Nat) (o' : Obj), w.heap.size ≤ l → Kp W (W.putObj l o'))
 (I : Nat → World → Prop) (hI : ∀ k A l o', (l = w.heap.size ∨ l = w.heap.size + 1) → I k A → I k (A.putObj l o'))
 (h0 : ∀ W, Below w.heap.size w W → w.heap.size + 2 ≤ W.heap.size → I 0 W) (a₁ : Nat → Act)
 (hassign : ∀ (l k : Nat) (W : World) (K : Act → World → Prop), K (a₁ k) W →
   assign.wpIn (Fence.wide.inRound l) 0 P (Exit.then K (fun _ _ _ => False)) { tmps := (ps.zip (encs k)).foldl (fun t (p, v) => t.setIfInBounds p v) a.tmps, defers := [] } W)
 (hbody : ∀ (l k : Nat) (W : World), I k W → k < N → w.heap.size + 1 < W.heap.size → body.wpIn (Fence.wide.inRound l) 0 P (roundOn w.heap.size Kp I k W) (a₁ k) W)
 (hdone : ∀ (W : World), I N W → W.heap[w.heap.size]? = some (.deferred (some [])) → Q .normal { a with defers := { target := .collected w.heap.size, args := #[] } :: a.defers } W) :
 (Code.rangeFunc g ps assign body).wpIn Fence.wide 0 P Q a w := by
 refine wpIn_rangeFunc ?_
 intro fn hfn
 obtain ⟨rec, hrec⟩ : ∃ rec : LoopState → Option Code → Loop, rec = fun st pe => { state := st, pending := pe, fn, tmps := a.tmps, params := ps, assign, body, defers := w.heap.size } := ⟨_, rfl⟩
 obtain ⟨W1, hW1⟩ : ∃ W1, (w.alloc (.deferred (some []))).alloc (.loop (rec .ready none)) = W1 := ⟨_, rfl⟩
 have hb1 : Below w.heap.size w W1 := by rw [← hW1]; exact ((Below.refl _ w).alloc (Nat.le_refl _) _).alloc (by simp) _
 have hs1 : w.heap.size + 2 ≤ W1.heap.size := by rw [← hW1]; simp
 have hL : W1.heap[w.heap.size + 1]? = some (.loop (rec .ready none)) := by
  rw [← hW1]; have := World.alloc_heap_new (w.alloc (.deferred (some []))) (.loop (rec .ready none)); rwa [World.size_alloc] at this
 have hD : W1.heap[w.heap.size]? = some (.deferred (some [])) := by rw [← hW1]; exact (Below.heap_alloc _ _ _ (by simp)).trans (World.alloc_heap_new w _)
 refine ⟨w.heap.size + 1, [{ target := .collected w.heap.size, args := #[] }], W1, { target := .fn (.func gf) lb, args := #[.func (.yield (w.heap.size + 1)) #[] #[]] }, W1, gf,
  #[.func (.yield (w.heap.size + 1)) #[] #[]] ++ lb, W1, ?_, ?_, ?_, ?_, ?_, ?_⟩
 · rw [← hW1, hrec]; exact run_enterLoop_outer _ _ _ _ _
 · simp only [resolve, hg]
   simp [go_sem]
 · intro f' _; trivial
 · simp [invoke, go_sem, eg]
 · intro h; cases h
 · refine (hseq (w.heap.size + 1)
    (fun k W => I k W ∧ W.heap[w.heap.size + 1]? = some (.loop (rec .ready none)) ∧ W.heap[w.heap.size]? = some (.deferred (some [])))
    W1 hb1 ?_ ⟨h0 W1 hb1 hs1, hL, hD⟩).mono ?_
   · rintro k W ⟨hi, hl, hk⟩ hlt
     have hlw : w.heap.size + 1 < W.heap.size := (Array.getElem?_eq_some_iff.1 hl).1
     have hy := run_yield (P := P) (args := encs k) hl (by rw [hrec]; exact hps k)
     rw [hrec] at hy
     refine ⟨fn, _, assign, body, hy, roundIn_of_wpIn hfn (hassign _ k W _ ⟨_, run_beginRound hl (by rw [hrec]), ?_⟩)⟩
     obtain ⟨W2, hW2⟩ : ∃ W2, W.putObj (w.heap.size + 1) (.loop { rec .ready none with state := .busy }) = W2 := ⟨_, rfl⟩
     have hl2 : W2.heap[w.heap.size + 1]? = some (.loop { rec .ready none with state := .busy }) := by rw [← hW2]; exact World.putObj_heap_same hlw
     have hk2 : W2.heap[w.heap.size]? = some (.deferred (some [])) := by rw [← hW2]; exact (World.putObj_heap_other (by omega)).trans hk
     have hi2 : I k W2 := by rw [← hW2]; exact hI k W _ _ (.inr rfl) hi
     have hw2 : Kp W W2 := by rw [← hW2]; exact hKb _ _ _ (by omega)
     rw [hW2]
     refine wpIn_mono (hbody _ k W2 hi2 hlt (Array.getElem?_eq_some_iff.1 hl2).1) ?_
     rintro e a3 W3 hp
     cases e with
     | normal =>
      obtain ⟨hr3, hk3, hi3⟩ := hp
      have hl3 := hr3.2.trans hl2
      have he := run_endRound (P := P) none hl3
      rw [hrec] at he
      refine ⟨_, _, he, rfl, ⟨hI _ _ _ _ (.inr rfl) hi3, ?_, ?_⟩, hKt (hKt hw2 hk3) (hKb _ _ _ (by omega))⟩
      · rw [World.putObj_heap_same (Array.getElem?_eq_some_iff.1 hl3).1, hrec]; rfl
      · exact (World.putObj_heap_other (by omega)).trans (hr3.1.trans hk2)
     | exit id => exact hp.elim
     | ret => exact hp.elim
     | goto t => exact hp.elim
     | panic ch => exact hp.elim
     | outgrown => exact hp.elim
   · rintro e W2 ⟨⟨v, rfl⟩, hi, hl, hk⟩
     have he := run_endLoop (P := P) hl (by rw [hrec]; simp)
     rw [hrec] at he
     exact ⟨none, _, he, hdone _ (hI _ _ _ _ (.inr rfl) hi) ((World.putObj_heap_other (by omega)).trans hk)⟩
section
variable {own own' : Own} {w w' : World} {i p q g t0 : Nat} {who0 : Int} {r : RS.Rf} {x : Ov} {o : RS.Ou} {M : Nat}
theorem others_w (p : Nat) (w : World) :
 Calls Try.prog 129 #[.pointer (some ⟨p, 0, none⟩)] w fun e w' => e = .returned (.func (.func 132) #[] #[.pointer (some ⟨w.heap.size, 0, none⟩)]) ∧ w' = w.alloc (.cells #[.pointer (some ⟨p, 0, none⟩)] 86) := by
 go_enter Try.func129, Try.ntmps129
 go_wp2
 go_ret
 exact ⟨rfl, rfl⟩
def OtAt (w : World) (N p n id : Nat) : Prop := w.cell? ⟨N, 0, none⟩ = some (.pointer (some ⟨p, 0, none⟩)) ∧ w.cell? ⟨p, 0, none⟩ = some (.int .i64 (n : Int)) ∧ w.cell? ⟨p, 1, none⟩ = some (.int .i64 (id : Int))
def KpOt (N p : Nat) (A B : World) : Prop := B.cell? ⟨N, 0, none⟩ = A.cell? ⟨N, 0, none⟩ ∧ B.cell? ⟨p, 0, none⟩ = A.cell? ⟨p, 0, none⟩ ∧ B.cell? ⟨p, 1, none⟩ = A.cell? ⟨p, 1, none⟩
theorem KpOt.trans {N p : Nat} {A B C : World} (h : KpOt N p A B) (k : KpOt N p B C) : KpOt N p A C := ⟨k.1.trans h.1, k.2.1.trans h.2.1, k.2.2.trans h.2.2⟩
theorem OtAt.keep {N p n id : Nat} {A B : World} (h : OtAt A N p n id) (k : KpOt N p A B) : OtAt B N p n id := ⟨k.1.trans h.1, k.2.1.trans h.2.1, k.2.2.trans h.2.2⟩
theorem KpOt.of_same {N p : Nat} {A B : World} (h1 : B.heap[N]? = A.heap[N]?) (h2 : B.heap[p]? = A.heap[p]?) : KpOt N p A B := ⟨World.cell?_of_block (a := ⟨N, 0, none⟩) h1, World.cell?_of_block (a := ⟨p, 0, none⟩) h2, World.cell?_of_block (a := ⟨p, 1, none⟩) h2⟩
def otTo (id m : Nat) : List Nat := (List.range m).filter fun i => decide (i ≠ id)
def otAt (id n k : Nat) : Nat := (otTo id n).getD k 0
theorem otTo_succ (id m : Nat) : otTo id (m + 1) = if m = id then otTo id m else otTo id m ++ [m] := by
 unfold otTo
 rw [List.range_succ, List.filter_append]
 by_cases h : m = id <;> simp [h]
theorem otTo_pre (id : Nat) : ∀ (n m : Nat), m ≤ n → ∃ t, otTo id n = otTo id m ++ t := by
 intro n
 induction n with
 | zero => intro m hm; obtain rfl : m = 0 := by omega
           exact ⟨[], by simp⟩
 | succ n ih =>
  intro m hm
  by_cases h : m = n + 1
  · subst h; exact ⟨[], by simp⟩
  · obtain ⟨t, ht⟩ := ih m (by omega)
    rw [otTo_succ, ht]
    by_cases e : n = id
    · rw [if_pos e]; exact ⟨t, rfl⟩
    · rw [if_neg e]; exact ⟨t ++ [n], by rw [List.append_assoc]⟩
theorem otTo_at {id n m : Nat} (hm : m < n) (hne : m ≠ id) : (otTo id m).length < (otTo id n).length ∧ otAt id n (otTo id m).length = m := by
 unfold otAt
 obtain ⟨t, ht⟩ := otTo_pre id n (m + 1) (by omega)
 rw [otTo_succ, if_neg hne] at ht
 rw [ht]
 refine ⟨by simp, ?_⟩
 rw [List.getD_eq_getElem?_getD, List.append_assoc, List.getElem?_append_right (Nat.le_refl _)]
 simp
set_option maxRecDepth 100000 in
theorem others_iter (w : World) (N p n id : Nat) (hn : n ≤ 7) (h : OtAt w N p n id) (hN : N < w.heap.size) (hp : p < w.heap.size) :
 Iter0 Try.prog 132 #[.pointer (some ⟨N, 0, none⟩)] (fun k => #[.int .i64 ((otAt id n k : Nat) : Int)]) (otTo id n).length (KpOt N p) w := by
 intro l J W hW hY h0
 have hA : OtAt W N p n id := h.keep (KpOt.of_same (hW.block N hN) (hW.block p hp))
 have HJ0 := zh h0
 have HY := zh hY
 have HA := zh hA
 obtain ⟨c1, c2, c3⟩ := hA
 have Hc1 := zh c1
 clear h0 hY h hW hN hp
 refine callsIn_of_wp Try.func132 rfl trivial ?_ rfl
 simp only [Try.ntmps132, List.size_toArray, List.length_cons, List.length_nil, Nat.reduceAdd, Nat.reduceSub, Array.replicate_succ, Array.replicate_zero, List.push_toArray, List.append_toArray, List.nil_append, List.cons_append]
 gi_wp2
 clear c1 c2 c3
 gi_loopw [9] (fun c wr => ∃ m : Nat, m ≤ n ∧ c = .int .i64 (m : Int) ∧ Hid (J (otTo id m).length wr) ∧ Hid (OtAt wr N p n id)) (fun c _ => n - (intOf c).toNat)
 case atStart => exact ⟨0, Nat.zero_le _, rfl, HJ0, HA⟩
 case round =>
  obtain ⟨m, hm, rfl, HJ, HO⟩ := hrel
  have d1 := HO.out.1
  have d2 := HO.out.2.2
  have hm0 : (0 : Int) ≤ (m : Int) := by omega
  have hm7 : (m : Int) ≤ 7 := by omega
  by_cases hlt : m < n
  · by_cases he : m = id
    · have e1 : ((m : Int) != (id : Int)) = false := by simp; omega
      have e2 : (m != id) = false := by simp; omega
      have Hs := zh (show otTo id (m + 1) = otTo id m by rw [otTo_succ, if_pos he])
      clear he
      gi_wp2
      refine ⟨fun f hf => (by cases hf), ?_⟩
      gi_wp2
      go_roundw
      case rel => exact ⟨m + 1, by omega, by go_num, zh (by rw [Hs.out]; exact HJ.out), HO⟩
      case measure => simp [intOf]; omega
    · have e1 : ((m : Int) != (id : Int)) = true := by simp; omega
      have e2 : (m != id) = true := by simp; omega
      have Hs := zh (show (otTo id (m + 1)).length = (otTo id m).length + 1 by rw [otTo_succ, if_neg he, List.length_append]; rfl)
      obtain ⟨q1, q2⟩ := otTo_at hlt he
      obtain ⟨fn, tmps, assign, body, hy, hR⟩ := HY.out _ _ HJ.out q1
      rw [q2] at hy
      clear he q1 q2
      gi_wp2
      refine ⟨rfl, hR.mono ?_⟩
      rintro e W3 ⟨rfl, hJ3, hk3⟩
      have HJ3 := zh hJ3
      have HO3 := zh (HO.out.keep hk3)
      clear hJ3 hk3 hR hy d1 d2
      gi_wp2
      go_roundw
      case rel => exact ⟨m + 1, by omega, by go_num, zh (by rw [Hs.out]; exact HJ3.out), HO3⟩
      case measure => simp [intOf]; omega
  · obtain rfl : m = n := by omega
    gi_wp2
    go_end0
    exact ⟨⟨_, rfl⟩, HJ.out⟩
end
end Go.Proofs.Yteellfgiejnigaa
