/- The law of tips: the walk. -/
import Derived.Test.YteellfgiejnigaaT8
import Derived.DeepKeys
namespace Go.Proofs.Yteellfgiejnigaa
open Go.ChangeShapes Go.WideShapes Go.ChangeAt Go.RowKit
set_option linter.unusedVariables false

def better (t i ot oi : Nat) : Bool := decide (ot < t) || (decide (t = ot) && decide (oi < i))
theorem better_w (t i ot oi : Nat) (w : World) : Calls Try.prog 13 #[.int .u64 (t : Int), .int .u64 (i : Int), .int .u64 (ot : Int), .int .u64 (oi : Int)] w fun r w' => r = .returned (.bool (better t i ot oi)) ∧ Below w.heap.size w w' := by
  unfold better
  by_cases h1 : ot < t
  · have e1 : decide (ot < t) = true := by simp [h1]
    go_enter Try.func13, Try.ntmps13
    go_wp2
    go_ret
    exact ⟨by rw [e1]; rfl, Below.refl _ _⟩
  · have e1 : decide (ot < t) = false := by simp; omega
    by_cases h2 : t = ot
    · subst h2
      have e2 : (t == t) = true := by simp
      go_enter Try.func13, Try.ntmps13
      go_wp2
      go_ret
      exact ⟨by simp, Below.refl _ _⟩
    · have e2 : decide (t = ot) = false := by simp [h2]
      have e3 : (t == ot) = false := by simp [h2]
      go_enter Try.func13, Try.ntmps13
      go_wp2
      go_ret
      exact ⟨by rw [e1, e2]; rfl, Below.refl _ _⟩
theorem refbetter_w (t i ot oi : Nat) (w : World) : Calls Try.prog 14 #[.int .u64 (t : Int), .int .u64 (i : Int), .int .u64 (ot : Int), .int .u64 (oi : Int)] w fun r w' => r = .returned (.bool (better t i ot oi)) ∧ Below w.heap.size w w' := by
  unfold better
  by_cases h1 : ot < t
  · have e1 : decide (ot < t) = true := by simp [h1]
    go_enter Try.func14, Try.ntmps14
    go_wp2
    go_ret
    exact ⟨by rw [e1]; rfl, Below.refl _ _⟩
  · have e1 : decide (ot < t) = false := by simp; omega
    by_cases h2 : t = ot
    · subst h2
      have e2 : (t == t) = true := by simp
      go_enter Try.func14, Try.ntmps14
      go_wp2
      go_ret
      exact ⟨by simp, Below.refl _ _⟩
    · have e2 : decide (t = ot) = false := by simp [h2]
      have e3 : (t == ot) = false := by simp [h2]
      go_enter Try.func14, Try.ntmps14
      go_wp2
      go_ret
      exact ⟨by rw [e1, e2]; rfl, Below.refl _ _⟩
theorem better_not (a0 a1 b0 b1 : Nat) (h : better a0 a1 b0 b1 = true) : better b0 b1 a0 a1 = false := by
  unfold better at *; simp at *; omega
theorem better_eq (a0 a1 b0 b1 : Nat) : (((a0 : Int) == (b0 : Int)) && ((a1 : Int) == (b1 : Int))) = (!better a0 a1 b0 b1 && !better b0 b1 a0 a1) := by
  unfold better; rw [Bool.eq_iff_iff]; simp; omega
theorem better_trans (a0 a1 b0 b1 c0 c1 : Nat) (h : better a0 a1 b0 b1 = true) (k : better b0 b1 c0 c1 = true) : better a0 a1 c0 c1 = true := by
  unfold better at *; simp at *; omega
theorem eql23 (a0 a1 b0 b1 : Int) (W : World) : (binOp .eql 23 (.agg #[.int .u64 a0, .int .u64 a1]) (.agg #[.int .u64 b0, .int .u64 b1])).run Try.prog W = .ok (.bool (a0 == b0 && a1 == b1)) W := by
  obtain ⟨i, hi⟩ : ∃ i, Try.prog.info? 22 = some i := Option.isSome_iff_exists.1 (by kernel_rfl)
  have hp : Try.prog.plainKey 22 = true := by kernel_rfl
  have hc : Try.prog.cellsOf 22 = 1 := by kernel_rfl
  have p0 : (part 22 #[.int .u64 a0, .int .u64 a1] 0).run Try.prog W = .ok (.int .u64 a0) W := run_part_plain (P := Try.prog) W hp rfl
  have p1 : (part 22 #[.int .u64 a0, .int .u64 a1] 1).run Try.prog W = .ok (.int .u64 a1) W := run_part_plain (P := Try.prog) W hp rfl
  have q0 : (part 22 #[.int .u64 b0, .int .u64 b1] 0).run Try.prog W = .ok (.int .u64 b0) W := run_part_plain (P := Try.prog) W hp rfl
  have q1 : (part 22 #[.int .u64 b0, .int .u64 b1] 1).run Try.prog W = .ok (.int .u64 b1) W := run_part_plain (P := Try.prog) W hp rfl
  have h0 : (Op.equalIn 9999 22 (.int .u64 a0) (.int .u64 b0)).run Try.prog W = .ok (a0 == b0) W := run_equalIn_int (P := Try.prog) W 9998 22 .u64 .u64 a0 b0 Try.underlying22
  have h1 : (Op.equalIn 9999 22 (.int .u64 a1) (.int .u64 b1)).run Try.prog W = .ok (a1 == b1) W := run_equalIn_int (P := Try.prog) W 9998 22 .u64 .u64 a1 b1 Try.underlying22
  rw [run_eql_struct, run_equalIn_array (P := Try.prog) W 9999 _ _ Try.underlying23 hi, hc]
  show ((Op.eqItems 9999 22 1 _ _ [0, 1]).run Try.prog W).andThen _ = _
  simp only [Op.eqItems, Nat.zero_mul, Nat.one_mul, Sem.run_bind, p0, q0, h0, Result.andThen_ok]
  cases h : (a0 == b0)
  · simp
  · simp only [Bool.not_true, Bool.false_eq_true, if_false, Bool.true_and, Sem.run_bind, p1, q1, h1, Result.andThen_ok]
    cases (a1 == b1) <;> simp
theorem guard23 (op : BinOp) (x y : Operand) (xs ys : Array Value) (W : World) : (eqGuard op 23 x y (.agg xs) (.agg ys)).run Try.prog W = .ok () W :=
  run_eqGuard_agg W op 23 x y xs ys (by kernel_rfl)
theorem load23 {o : Oper} {e : Operand → Value} {W : World} {N : Nat} {a b : Value} (x : Operand) (ho : o.op = .load 23 x) (hx : e x = .pointer (some ⟨N, 0, none⟩)) (h : W.heap[N]? = some (.cells #[a, b] 23)) :
    (execOp e o).run Try.prog W = .ok (.value (.agg #[a, b])) W := by
  have hl := run_loadVar_row (P := Try.prog) W N 23 23 #[a, b] (0, 0) _ h Try.underlying23 rfl (show _ = some 2 by kernel_rfl)
  unfold execOp
  simp only [ho, hx, Instr.loadAt, Instr.sureAddr, Sem.run_bind, Sem.run_pure, Result.andThen_ok, hl]

theorem eq23_ok {o : Oper} {e : Operand → Value} {W : World} {a0 a1 b0 b1 : Int} {q : Bool} (x y : Operand) (ho : o.op = .binOp .eql 23 x y 23) (hx : e x = .agg #[.int .u64 a0, .int .u64 a1]) (hy : e y = .agg #[.int .u64 b0, .int .u64 b1])
    (h : (binOp .eql 23 (.agg #[.int .u64 a0, .int .u64 a1]) (.agg #[.int .u64 b0, .int .u64 b1])).run Try.prog W = .ok (.bool q) W) : (execOp e o).run Try.prog W = .ok (.value (.bool q)) W := by
  unfold execOp
  simp only [ho, hx, hy, Sem.run_bind, Sem.run_pure, Result.andThen_ok, guard23, h]
theorem row_at0 {W : World} {N : Nat} {a b : Value} {t : TypeId} (h : W.heap[N]? = some (.cells #[a, b] t)) : W.cell? ⟨N, 0, none⟩ = some a := by rw [cell_of_row _ _ _ _ _ _ h]; rfl
theorem row_at1 {W : World} {N : Nat} {a b : Value} {t : TypeId} (h : W.heap[N]? = some (.cells #[a, b] t)) : W.cell? ⟨N, 1, none⟩ = some b := by rw [cell_of_row _ _ _ _ _ _ h]; rfl
set_option maxRecDepth 100000 in
set_option maxHeartbeats 6400000 in
theorem tips_law_w (a0 a1 b0 b1 c0 c1 : Nat) (w : World) : Calls Try.prog 3 #[.agg #[.int .u64 (a0 : Int), .int .u64 (a1 : Int)], .agg #[.int .u64 (b0 : Int), .int .u64 (b1 : Int)], .agg #[.int .u64 (c0 : Int), .int .u64 (c1 : Int)]] w fun r w' => r = .returned (.bool true) ∧ Below w.heap.size w w' := by
  have hnot := better_not a0 a1 b0 b1
  have htr := better_trans a0 a1 b0 b1 c0 c1
  have Heq := Lib.hid (fun W => eql23 a0 a1 b0 b1 W)
  rw [better_eq] at Heq
  have HAB := Lib.hid (fun W => better_w a0 a1 b0 b1 W)
  have HBA := Lib.hid (fun W => better_w b0 b1 a0 a1 W)
  have HBC := Lib.hid (fun W => better_w b0 b1 c0 c1 W)
  have HAC := Lib.hid (fun W => better_w a0 a1 c0 c1 W)
  have HRE := Lib.hid (fun W => refbetter_w a0 a1 b0 b1 W)
  generalize better a0 a1 b0 b1 = ab at *
  generalize better b0 b1 a0 a1 = ba at *
  generalize better b0 b1 c0 c1 = bc at *
  generalize better a0 a1 c0 c1 = ac at *
  obtain ⟨W0, hW0⟩ : ∃ W0, ((w.alloc (.cells #[.int .u64 (a0 : Int), .int .u64 (a1 : Int)] 23)).alloc (.cells #[.int .u64 (b0 : Int), .int .u64 (b1 : Int)] 23)).alloc (.cells #[.int .u64 (c0 : Int), .int .u64 (c1 : Int)] 23) = W0 := ⟨_, rfl⟩
  have r0 : W0.heap[w.heap.size]? = some (.cells #[.int .u64 (a0 : Int), .int .u64 (a1 : Int)] 23) := by
    rw [← hW0, heap_alloc_get, if_neg (by simp only [heap_alloc_size]; omega), heap_alloc_get, if_neg (by simp only [heap_alloc_size]; omega), heap_alloc_get, if_pos rfl]
  have r1 : W0.heap[w.heap.size + 1]? = some (.cells #[.int .u64 (b0 : Int), .int .u64 (b1 : Int)] 23) := by
    rw [← hW0, heap_alloc_get, if_neg (by simp only [heap_alloc_size]; omega), heap_alloc_get, if_pos (by simp only [heap_alloc_size])]
  have r2 : W0.heap[w.heap.size + 1 + 1]? = some (.cells #[.int .u64 (c0 : Int), .int .u64 (c1 : Int)] 23) := by
    rw [← hW0, heap_alloc_get, if_pos (by simp only [heap_alloc_size])]
  have hB0 : Below w.heap.size w W0 := by rw [← hW0]; exact (((Below.refl w.heap.size w).alloc (Nat.le_refl _) _).alloc (by simp) _).alloc (by simp; omega) _
  have HR := Lib.hid (fun (W : World) (k : Keeps W0 W) => And.intro ((k _ (Array.getElem?_eq_some_iff.1 r0).1).trans r0) (And.intro ((k _ (Array.getElem?_eq_some_iff.1 r1).1).trans r1) ((k _ (Array.getElem?_eq_some_iff.1 r2).1).trans r2)))
  have HB0 := Lib.hid hB0
  have HW0 := Lib.hid hW0
  clear hW0 r0 r1 r2 hB0
  have HKn := Lib.hid known24_w
  have hways : (ab = false ∧ ba = false) ∨ (ab = false ∧ ba = true) ∨ (ab = true ∧ ba = false ∧ bc = false) ∨ (ab = true ∧ ba = false ∧ bc = true ∧ ac = true) := by
    cases ab <;> cases ba <;> cases bc <;> simp_all
  clear hnot htr
  rcases hways with ⟨rfl, rfl⟩ | ⟨rfl, rfl⟩ | ⟨rfl, rfl, rfl⟩ | ⟨rfl, rfl, rfl, rfl⟩
  · go_enter Try.func3, Try.ntmps3
    go_wp2
    rw [HW0.out]
    apply RegT.wp_region_T rfl 91 20 rfl (by kernel_rfl) RegT.Grow RegT.Grow.refl RegT.Grow.trans
    · apply RegT.T_pure (v := .pointer (some ⟨w.heap.size, 0, none⟩)) rfl rfl rfl
      · intro W hR; clear hR; go_simp
      simp only [List.set_cons_succ, List.set_cons_zero, Nat.reduceAdd]
      apply RegT.T_pure (v := .int .u64 (a0 : Int)) rfl rfl rfl
      · intro W hR
        have hc := row_at0 (HR.out W ((Keeps.refl W0).drew.trans hR.block)).1
        clear hR
        go_simp
      simp only [List.set_cons_succ, List.set_cons_zero, Nat.reduceAdd]
      apply RegT.T_pure (v := .pointer (some ⟨w.heap.size, 1, none⟩)) rfl rfl rfl
      · intro W hR; clear hR; go_simp
      simp only [List.set_cons_succ, List.set_cons_zero, Nat.reduceAdd]
      apply RegT.T_pure (v := .int .u64 (a1 : Int)) rfl rfl rfl
      · intro W hR
        have hc := row_at1 (HR.out W ((Keeps.refl W0).drew.trans hR.block)).1
        clear hR
        go_simp
      simp only [List.set_cons_succ, List.set_cons_zero, Nat.reduceAdd]
      apply RegT.T_pure (v := .pointer (some ⟨w.heap.size + 1, 0, none⟩)) rfl rfl rfl
      · intro W hR; clear hR; go_simp
      simp only [List.set_cons_succ, List.set_cons_zero, Nat.reduceAdd]
      apply RegT.T_pure (v := .int .u64 (b0 : Int)) rfl rfl rfl
      · intro W hR
        have hc := row_at0 (HR.out W ((Keeps.refl W0).drew.trans hR.block)).2.1
        clear hR
        go_simp
      simp only [List.set_cons_succ, List.set_cons_zero, Nat.reduceAdd]
      apply RegT.T_pure (v := .pointer (some ⟨w.heap.size + 1, 1, none⟩)) rfl rfl rfl
      · intro W hR; clear hR; go_simp
      simp only [List.set_cons_succ, List.set_cons_zero, Nat.reduceAdd]
      apply RegT.T_pure (v := .int .u64 (b1 : Int)) rfl rfl rfl
      · intro W hR
        have hc := row_at1 (HR.out W ((Keeps.refl W0).drew.trans hR.block)).2.1
        clear hR
        go_simp
      simp only [List.set_cons_succ, List.set_cons_zero, Nat.reduceAdd]
      apply RegT.T_const rfl rfl rfl (.bool false) (fun _ _ h => h)
      · intro W hR hf
        have Hc := Lib.hid (HAB.out W)
        clear hR hf
        go_simp
        exact RegT.OpOK_enter Hc.out (fun e w' h => ⟨_, h.1, rfl, h.2⟩)
      simp only [List.set_cons_succ, List.set_cons_zero, Nat.reduceAdd]
      apply RegT.T_pure (v := .pointer (some ⟨w.heap.size + 1, 0, none⟩)) rfl rfl rfl
      · intro W hR; clear hR; go_simp
      simp only [List.set_cons_succ, List.set_cons_zero, Nat.reduceAdd]
      apply RegT.T_pure (v := .int .u64 (b0 : Int)) rfl rfl rfl
      · intro W hR
        have hc := row_at0 (HR.out W ((Keeps.refl W0).drew.trans hR.block)).2.1
        clear hR
        go_simp
      simp only [List.set_cons_succ, List.set_cons_zero, Nat.reduceAdd]
      apply RegT.T_pure (v := .pointer (some ⟨w.heap.size + 1, 1, none⟩)) rfl rfl rfl
      · intro W hR; clear hR; go_simp
      simp only [List.set_cons_succ, List.set_cons_zero, Nat.reduceAdd]
      apply RegT.T_pure (v := .int .u64 (b1 : Int)) rfl rfl rfl
      · intro W hR
        have hc := row_at1 (HR.out W ((Keeps.refl W0).drew.trans hR.block)).2.1
        clear hR
        go_simp
      simp only [List.set_cons_succ, List.set_cons_zero, Nat.reduceAdd]
      apply RegT.T_pure (v := .pointer (some ⟨w.heap.size, 0, none⟩)) rfl rfl rfl
      · intro W hR; clear hR; go_simp
      simp only [List.set_cons_succ, List.set_cons_zero, Nat.reduceAdd]
      apply RegT.T_pure (v := .int .u64 (a0 : Int)) rfl rfl rfl
      · intro W hR
        have hc := row_at0 (HR.out W ((Keeps.refl W0).drew.trans hR.block)).1
        clear hR
        go_simp
      simp only [List.set_cons_succ, List.set_cons_zero, Nat.reduceAdd]
      apply RegT.T_pure (v := .pointer (some ⟨w.heap.size, 1, none⟩)) rfl rfl rfl
      · intro W hR; clear hR; go_simp
      simp only [List.set_cons_succ, List.set_cons_zero, Nat.reduceAdd]
      apply RegT.T_pure (v := .int .u64 (a1 : Int)) rfl rfl rfl
      · intro W hR
        have hc := row_at1 (HR.out W ((Keeps.refl W0).drew.trans hR.block)).1
        clear hR
        go_simp
      simp only [List.set_cons_succ, List.set_cons_zero, Nat.reduceAdd]
      apply RegT.T_const rfl rfl rfl (.bool false) (fun _ _ h => h)
      · intro W hR hf
        have Hc := Lib.hid (HBA.out W)
        clear hR hf
        go_simp
        exact RegT.OpOK_enter Hc.out (fun e w' h => ⟨_, h.1, rfl, h.2⟩)
      simp only [List.set_cons_succ, List.set_cons_zero, Nat.reduceAdd]
      iterate 2
        apply RegT.T_pure rfl rfl rfl
        · intro W hR; go_simp; rfl
        simp only [List.set_cons_succ, List.set_cons_zero, Nat.reduceAdd]
      refine RegT.T_tail (fun W1 hR hf => ?_)
      have HR := Lib.hid (fun (W : World) (k : Keeps W1 W) => HR.out W (((Keeps.refl W0).drew.trans hR.block).trans k))
      have HB1 := Lib.hid (HB0.out.trans (((Below.refl _ W0).drew.trans hR).mono HB0.out.size))
      clear hR hf
      simp only [List.drop_succ_cons, List.drop_zero]
      go_wp2
      apply RegT.wp_region_T rfl 91 20 rfl (by kernel_rfl) RegT.Grow RegT.Grow.refl RegT.Grow.trans
      · apply RegT.T_pure (v := .pointer (some ⟨w.heap.size + 1, 0, none⟩)) rfl rfl rfl
        · intro W hR; clear hR; go_simp
        simp only [List.set_cons_succ, List.set_cons_zero, Nat.reduceAdd]
        apply RegT.T_pure (v := .int .u64 (b0 : Int)) rfl rfl rfl
        · intro W hR
          have hc := row_at0 (HR.out W ((Keeps.refl W1).drew.trans hR.block)).2.1
          clear hR
          go_simp
        simp only [List.set_cons_succ, List.set_cons_zero, Nat.reduceAdd]
        apply RegT.T_pure (v := .pointer (some ⟨w.heap.size + 1, 1, none⟩)) rfl rfl rfl
        · intro W hR; clear hR; go_simp
        simp only [List.set_cons_succ, List.set_cons_zero, Nat.reduceAdd]
        apply RegT.T_pure (v := .int .u64 (b1 : Int)) rfl rfl rfl
        · intro W hR
          have hc := row_at1 (HR.out W ((Keeps.refl W1).drew.trans hR.block)).2.1
          clear hR
          go_simp
        simp only [List.set_cons_succ, List.set_cons_zero, Nat.reduceAdd]
        apply RegT.T_pure (v := .pointer (some ⟨w.heap.size + 1 + 1, 0, none⟩)) rfl rfl rfl
        · intro W hR; clear hR; go_simp
        simp only [List.set_cons_succ, List.set_cons_zero, Nat.reduceAdd]
        apply RegT.T_pure (v := .int .u64 (c0 : Int)) rfl rfl rfl
        · intro W hR
          have hc := row_at0 (HR.out W ((Keeps.refl W1).drew.trans hR.block)).2.2
          clear hR
          go_simp
        simp only [List.set_cons_succ, List.set_cons_zero, Nat.reduceAdd]
        apply RegT.T_pure (v := .pointer (some ⟨w.heap.size + 1 + 1, 1, none⟩)) rfl rfl rfl
        · intro W hR; clear hR; go_simp
        simp only [List.set_cons_succ, List.set_cons_zero, Nat.reduceAdd]
        apply RegT.T_pure (v := .int .u64 (c1 : Int)) rfl rfl rfl
        · intro W hR
          have hc := row_at1 (HR.out W ((Keeps.refl W1).drew.trans hR.block)).2.2
          clear hR
          go_simp
        simp only [List.set_cons_succ, List.set_cons_zero, Nat.reduceAdd]
        apply RegT.T_const rfl rfl rfl (.bool bc) (fun _ _ h => h)
        · intro W hR hf
          have Hc := Lib.hid (HBC.out W)
          clear hR hf
          go_simp
          exact RegT.OpOK_enter Hc.out (fun e w' h => ⟨_, h.1, rfl, h.2⟩)
        simp only [List.set_cons_succ, List.set_cons_zero, Nat.reduceAdd]
        apply RegT.T_pure (v := .pointer (some ⟨w.heap.size, 0, none⟩)) rfl rfl rfl
        · intro W hR; clear hR; go_simp
        simp only [List.set_cons_succ, List.set_cons_zero, Nat.reduceAdd]
        apply RegT.T_pure (v := .int .u64 (a0 : Int)) rfl rfl rfl
        · intro W hR
          have hc := row_at0 (HR.out W ((Keeps.refl W1).drew.trans hR.block)).1
          clear hR
          go_simp
        simp only [List.set_cons_succ, List.set_cons_zero, Nat.reduceAdd]
        apply RegT.T_pure (v := .pointer (some ⟨w.heap.size, 1, none⟩)) rfl rfl rfl
        · intro W hR; clear hR; go_simp
        simp only [List.set_cons_succ, List.set_cons_zero, Nat.reduceAdd]
        apply RegT.T_pure (v := .int .u64 (a1 : Int)) rfl rfl rfl
        · intro W hR
          have hc := row_at1 (HR.out W ((Keeps.refl W1).drew.trans hR.block)).1
          clear hR
          go_simp
        simp only [List.set_cons_succ, List.set_cons_zero, Nat.reduceAdd]
        apply RegT.T_pure (v := .pointer (some ⟨w.heap.size + 1 + 1, 0, none⟩)) rfl rfl rfl
        · intro W hR; clear hR; go_simp
        simp only [List.set_cons_succ, List.set_cons_zero, Nat.reduceAdd]
        apply RegT.T_pure (v := .int .u64 (c0 : Int)) rfl rfl rfl
        · intro W hR
          have hc := row_at0 (HR.out W ((Keeps.refl W1).drew.trans hR.block)).2.2
          clear hR
          go_simp
        simp only [List.set_cons_succ, List.set_cons_zero, Nat.reduceAdd]
        apply RegT.T_pure (v := .pointer (some ⟨w.heap.size + 1 + 1, 1, none⟩)) rfl rfl rfl
        · intro W hR; clear hR; go_simp
        simp only [List.set_cons_succ, List.set_cons_zero, Nat.reduceAdd]
        apply RegT.T_pure (v := .int .u64 (c1 : Int)) rfl rfl rfl
        · intro W hR
          have hc := row_at1 (HR.out W ((Keeps.refl W1).drew.trans hR.block)).2.2
          clear hR
          go_simp
        simp only [List.set_cons_succ, List.set_cons_zero, Nat.reduceAdd]
        apply RegT.T_const rfl rfl rfl (.bool ac) (fun _ _ h => h)
        · intro W hR hf
          have Hc := Lib.hid (HAC.out W)
          clear hR hf
          go_simp
          exact RegT.OpOK_enter Hc.out (fun e w' h => ⟨_, h.1, rfl, h.2⟩)
        simp only [List.set_cons_succ, List.set_cons_zero, Nat.reduceAdd]
        iterate 2
          apply RegT.T_pure rfl rfl rfl
          · intro W hR; go_simp; rfl
          simp only [List.set_cons_succ, List.set_cons_zero, Nat.reduceAdd]
        refine RegT.T_tail (fun W2 hR hf => ?_)
        have HR := Lib.hid (fun (W : World) (k : Keeps W2 W) => HR.out W (((Keeps.refl W1).drew.trans hR.block).trans k))
        have HB2 := Lib.hid (HB1.out.trans (((Below.refl _ W1).drew.trans hR).mono HB1.out.size))
        clear hR hf
        simp only [List.drop_succ_cons, List.drop_zero]
        go_upto_region 3 with fail
        apply RegT.wp_region_F RegT.Grow RegT.Grow.refl RegT.Grow.trans
        · apply RegT.T_pure (v := .bool false) rfl rfl rfl
          · intro W hR; clear hR; go_simp
          simp only [List.set_cons_succ, List.set_cons_zero, Nat.reduceAdd]
          apply RegT.T_pure (v := .pointer (some ⟨w.heap.size, 0, none⟩)) rfl rfl rfl
          · intro W hR; clear hR; go_simp
          simp only [List.set_cons_succ, List.set_cons_zero, Nat.reduceAdd]
          apply RegT.T_pure (v := .int .u64 (a0 : Int)) rfl rfl rfl
          · intro W hR
            have hc := row_at0 (HR.out W hR.block).1
            clear hR
            go_simp
          simp only [List.set_cons_succ, List.set_cons_zero, Nat.reduceAdd]
          apply RegT.T_pure (v := .pointer (some ⟨w.heap.size, 1, none⟩)) rfl rfl rfl
          · intro W hR; clear hR; go_simp
          simp only [List.set_cons_succ, List.set_cons_zero, Nat.reduceAdd]
          apply RegT.T_pure (v := .int .u64 (a1 : Int)) rfl rfl rfl
          · intro W hR
            have hc := row_at1 (HR.out W hR.block).1
            clear hR
            go_simp
          simp only [List.set_cons_succ, List.set_cons_zero, Nat.reduceAdd]
          apply RegT.T_pure (v := .pointer (some ⟨w.heap.size + 1, 0, none⟩)) rfl rfl rfl
          · intro W hR; clear hR; go_simp
          simp only [List.set_cons_succ, List.set_cons_zero, Nat.reduceAdd]
          apply RegT.T_pure (v := .int .u64 (b0 : Int)) rfl rfl rfl
          · intro W hR
            have hc := row_at0 (HR.out W hR.block).2.1
            clear hR
            go_simp
          simp only [List.set_cons_succ, List.set_cons_zero, Nat.reduceAdd]
          apply RegT.T_pure (v := .pointer (some ⟨w.heap.size + 1, 1, none⟩)) rfl rfl rfl
          · intro W hR; clear hR; go_simp
          simp only [List.set_cons_succ, List.set_cons_zero, Nat.reduceAdd]
          apply RegT.T_pure (v := .int .u64 (b1 : Int)) rfl rfl rfl
          · intro W hR
            have hc := row_at1 (HR.out W hR.block).2.1
            clear hR
            go_simp
          simp only [List.set_cons_succ, List.set_cons_zero, Nat.reduceAdd]
          apply RegT.T_const rfl rfl rfl (.bool false) (fun _ _ h => h)
          · intro W hR hf
            have Hc := Lib.hid (HRE.out W)
            clear hR hf
            go_simp
            exact RegT.OpOK_enter Hc.out (fun e w' h => ⟨_, h.1, rfl, h.2⟩)
          simp only [List.set_cons_succ, List.set_cons_zero, Nat.reduceAdd]
          apply RegT.T_pure (v := .bool true) rfl rfl rfl
          · intro W hR; clear hR; go_simp
          simp only [List.set_cons_succ, List.set_cons_zero, Nat.reduceAdd]
          iterate 1
            apply RegT.T_pure rfl rfl rfl
            · intro W hR; go_simp; rfl
            simp only [List.set_cons_succ, List.set_cons_zero, Nat.reduceAdd]
          iterate 2
            apply RegT.T_pure rfl rfl rfl
            · intro W hR; go_simp; rfl
            simp only [List.set_cons_succ, List.set_cons_zero, Nat.reduceAdd]
          iterate 1
            apply RegT.T_skip rfl rfl rfl
            simp only [List.set_cons_succ, List.set_cons_zero, Nat.reduceAdd]
          apply RegT.T_pure (v := .bool false) rfl rfl rfl
          · intro W hR; clear hR; go_simp
          simp only [List.set_cons_succ, List.set_cons_zero, Nat.reduceAdd]
          apply RegT.T_pure (v := .bool true) rfl rfl rfl
          · intro W hR; clear hR; go_simp
          simp only [List.set_cons_succ, List.set_cons_zero, Nat.reduceAdd]
          apply RegT.T_pure (v := .bool true) rfl rfl rfl
          · intro W hR; clear hR; go_simp
          simp only [List.set_cons_succ, List.set_cons_zero, Nat.reduceAdd]
          iterate 1
            apply RegT.T_pure rfl rfl rfl
            · intro W hR; go_simp; rfl
            simp only [List.set_cons_succ, List.set_cons_zero, Nat.reduceAdd]
          iterate 1
            apply RegT.T_pure rfl rfl rfl
            · intro W hR; go_simp; rfl
            simp only [List.set_cons_succ, List.set_cons_zero, Nat.reduceAdd]
          apply RegT.T_pure (v := .bool true) rfl rfl rfl
          · intro W hR; clear hR; go_simp
          simp only [List.set_cons_succ, List.set_cons_zero, Nat.reduceAdd]
          iterate 1
            apply RegT.T_pure rfl rfl rfl
            · intro W hR; go_simp; rfl
            simp only [List.set_cons_succ, List.set_cons_zero, Nat.reduceAdd]
          iterate 1
            apply RegT.T_pure rfl rfl rfl
            · intro W hR; go_simp; rfl
            simp only [List.set_cons_succ, List.set_cons_zero, Nat.reduceAdd]
          apply RegT.T_pure (v := .bool true) rfl rfl rfl
          · intro W hR; clear hR; go_simp
          simp only [List.set_cons_succ, List.set_cons_zero, Nat.reduceAdd]
          apply RegT.T_pure (v := .bool true) rfl rfl rfl
          · intro W hR; clear hR; go_simp
          simp only [List.set_cons_succ, List.set_cons_zero, Nat.reduceAdd]
          apply RegT.T_pure (v := .agg #[.int .u64 (a0 : Int), .int .u64 (a1 : Int)]) rfl rfl rfl
          · exact fun W hR => load23 (.tmp 3) rfl rfl (HR.out W hR.block).1
          simp only [List.set_cons_succ, List.set_cons_zero, Nat.reduceAdd]
          apply RegT.T_pure (v := .agg #[.int .u64 (b0 : Int), .int .u64 (b1 : Int)]) rfl rfl rfl
          · exact fun W hR => load23 (.tmp 4) rfl rfl (HR.out W hR.block).2.1
          simp only [List.set_cons_succ, List.set_cons_zero, Nat.reduceAdd]
          apply RegT.T_pure (v := .bool true) rfl rfl rfl
          · exact fun W hR => eq23_ok (.tmp 72) (.tmp 73) rfl rfl rfl (Heq.out W)
          simp only [List.set_cons_succ, List.set_cons_zero, Nat.reduceAdd]
          apply RegT.T_pure (v := .bool true) rfl rfl rfl
          · intro W hR; clear hR; go_simp
          simp only [List.set_cons_succ, List.set_cons_zero, Nat.reduceAdd]
          apply RegT.T_pure (v := .bool true) rfl rfl rfl
          · intro W hR; clear hR; go_simp
          simp only [List.set_cons_succ, List.set_cons_zero, Nat.reduceAdd]
          iterate 1
            apply RegT.T_pure rfl rfl rfl
            · intro W hR; go_simp; rfl
            simp only [List.set_cons_succ, List.set_cons_zero, Nat.reduceAdd]
          iterate 1
            apply RegT.T_pure rfl rfl rfl
            · intro W hR; go_simp; rfl
            simp only [List.set_cons_succ, List.set_cons_zero, Nat.reduceAdd]
          apply RegT.T_pure (v := .bool true) rfl rfl rfl
          · intro W hR; clear hR; go_simp
          simp only [List.set_cons_succ, List.set_cons_zero, Nat.reduceAdd]
          iterate 1
            apply RegT.T_pure rfl rfl rfl
            · intro W hR; go_simp; rfl
            simp only [List.set_cons_succ, List.set_cons_zero, Nat.reduceAdd]
          iterate 2
            apply RegT.T_skip rfl rfl rfl
            simp only [List.set_cons_succ, List.set_cons_zero, Nat.reduceAdd]
          apply RegT.T_pure (v := .bool true) rfl rfl rfl
          · intro W hR; clear hR; go_simp
          simp only [List.set_cons_succ, List.set_cons_zero, Nat.reduceAdd]
          iterate 1
            apply RegT.T_pure rfl rfl rfl
            · intro W hR; go_simp; rfl
            simp only [List.set_cons_succ, List.set_cons_zero, Nat.reduceAdd]
          iterate 1
            apply RegT.T_skip rfl rfl rfl
            simp only [List.set_cons_succ, List.set_cons_zero, Nat.reduceAdd]
          apply RegT.T_pure (v := .bool true) rfl rfl rfl
          · intro W hR; clear hR; go_simp
          simp only [List.set_cons_succ, List.set_cons_zero, Nat.reduceAdd]
          apply RegT.T_pure (v := .bool true) rfl rfl rfl
          · intro W hR; clear hR; go_simp
          simp only [List.set_cons_succ, List.set_cons_zero, Nat.reduceAdd]
          iterate 1
            apply RegT.T_pure rfl rfl rfl
            · intro W hR; go_simp; rfl
            simp only [List.set_cons_succ, List.set_cons_zero, Nat.reduceAdd]
          apply RegT.T_const rfl rfl rfl (.bool true) (fun _ _ h => h)
          · intro W hR hf
            have Hc := Lib.hid (HKn.out W)
            clear hR hf
            go_simp
            exact RegT.OpOK_enter Hc.out (fun e w' h => ⟨_, h.1, rfl, h.2⟩)
          simp only [List.set_cons_succ, List.set_cons_zero, Nat.reduceAdd]
          apply RegT.T_pure (v := .bool true) rfl rfl rfl
          · intro W hR; clear hR; go_simp
          simp only [List.set_cons_succ, List.set_cons_zero, Nat.reduceAdd]
          iterate 1
            apply RegT.T_pure rfl rfl rfl
            · intro W hR; go_simp; rfl
            simp only [List.set_cons_succ, List.set_cons_zero, Nat.reduceAdd]
          refine RegT.T_tail (fun W3 hR hf => ?_)
          have HB3 := Lib.hid (HB2.out.trans (hR.mono HB2.out.size))
          clear hR hf
          simp only [List.drop_succ_cons, List.drop_zero]
          go_wp2
          go_ret
          exact ⟨rfl, HB3.out⟩
        · rfl
      · rfl
      · kernel_rfl
    · rfl
    · kernel_rfl
  · go_enter Try.func3, Try.ntmps3
    go_wp2
    rw [HW0.out]
    apply RegT.wp_region_T rfl 91 20 rfl (by kernel_rfl) RegT.Grow RegT.Grow.refl RegT.Grow.trans
    · apply RegT.T_pure (v := .pointer (some ⟨w.heap.size, 0, none⟩)) rfl rfl rfl
      · intro W hR; clear hR; go_simp
      simp only [List.set_cons_succ, List.set_cons_zero, Nat.reduceAdd]
      apply RegT.T_pure (v := .int .u64 (a0 : Int)) rfl rfl rfl
      · intro W hR
        have hc := row_at0 (HR.out W ((Keeps.refl W0).drew.trans hR.block)).1
        clear hR
        go_simp
      simp only [List.set_cons_succ, List.set_cons_zero, Nat.reduceAdd]
      apply RegT.T_pure (v := .pointer (some ⟨w.heap.size, 1, none⟩)) rfl rfl rfl
      · intro W hR; clear hR; go_simp
      simp only [List.set_cons_succ, List.set_cons_zero, Nat.reduceAdd]
      apply RegT.T_pure (v := .int .u64 (a1 : Int)) rfl rfl rfl
      · intro W hR
        have hc := row_at1 (HR.out W ((Keeps.refl W0).drew.trans hR.block)).1
        clear hR
        go_simp
      simp only [List.set_cons_succ, List.set_cons_zero, Nat.reduceAdd]
      apply RegT.T_pure (v := .pointer (some ⟨w.heap.size + 1, 0, none⟩)) rfl rfl rfl
      · intro W hR; clear hR; go_simp
      simp only [List.set_cons_succ, List.set_cons_zero, Nat.reduceAdd]
      apply RegT.T_pure (v := .int .u64 (b0 : Int)) rfl rfl rfl
      · intro W hR
        have hc := row_at0 (HR.out W ((Keeps.refl W0).drew.trans hR.block)).2.1
        clear hR
        go_simp
      simp only [List.set_cons_succ, List.set_cons_zero, Nat.reduceAdd]
      apply RegT.T_pure (v := .pointer (some ⟨w.heap.size + 1, 1, none⟩)) rfl rfl rfl
      · intro W hR; clear hR; go_simp
      simp only [List.set_cons_succ, List.set_cons_zero, Nat.reduceAdd]
      apply RegT.T_pure (v := .int .u64 (b1 : Int)) rfl rfl rfl
      · intro W hR
        have hc := row_at1 (HR.out W ((Keeps.refl W0).drew.trans hR.block)).2.1
        clear hR
        go_simp
      simp only [List.set_cons_succ, List.set_cons_zero, Nat.reduceAdd]
      apply RegT.T_const rfl rfl rfl (.bool false) (fun _ _ h => h)
      · intro W hR hf
        have Hc := Lib.hid (HAB.out W)
        clear hR hf
        go_simp
        exact RegT.OpOK_enter Hc.out (fun e w' h => ⟨_, h.1, rfl, h.2⟩)
      simp only [List.set_cons_succ, List.set_cons_zero, Nat.reduceAdd]
      apply RegT.T_pure (v := .pointer (some ⟨w.heap.size + 1, 0, none⟩)) rfl rfl rfl
      · intro W hR; clear hR; go_simp
      simp only [List.set_cons_succ, List.set_cons_zero, Nat.reduceAdd]
      apply RegT.T_pure (v := .int .u64 (b0 : Int)) rfl rfl rfl
      · intro W hR
        have hc := row_at0 (HR.out W ((Keeps.refl W0).drew.trans hR.block)).2.1
        clear hR
        go_simp
      simp only [List.set_cons_succ, List.set_cons_zero, Nat.reduceAdd]
      apply RegT.T_pure (v := .pointer (some ⟨w.heap.size + 1, 1, none⟩)) rfl rfl rfl
      · intro W hR; clear hR; go_simp
      simp only [List.set_cons_succ, List.set_cons_zero, Nat.reduceAdd]
      apply RegT.T_pure (v := .int .u64 (b1 : Int)) rfl rfl rfl
      · intro W hR
        have hc := row_at1 (HR.out W ((Keeps.refl W0).drew.trans hR.block)).2.1
        clear hR
        go_simp
      simp only [List.set_cons_succ, List.set_cons_zero, Nat.reduceAdd]
      apply RegT.T_pure (v := .pointer (some ⟨w.heap.size, 0, none⟩)) rfl rfl rfl
      · intro W hR; clear hR; go_simp
      simp only [List.set_cons_succ, List.set_cons_zero, Nat.reduceAdd]
      apply RegT.T_pure (v := .int .u64 (a0 : Int)) rfl rfl rfl
      · intro W hR
        have hc := row_at0 (HR.out W ((Keeps.refl W0).drew.trans hR.block)).1
        clear hR
        go_simp
      simp only [List.set_cons_succ, List.set_cons_zero, Nat.reduceAdd]
      apply RegT.T_pure (v := .pointer (some ⟨w.heap.size, 1, none⟩)) rfl rfl rfl
      · intro W hR; clear hR; go_simp
      simp only [List.set_cons_succ, List.set_cons_zero, Nat.reduceAdd]
      apply RegT.T_pure (v := .int .u64 (a1 : Int)) rfl rfl rfl
      · intro W hR
        have hc := row_at1 (HR.out W ((Keeps.refl W0).drew.trans hR.block)).1
        clear hR
        go_simp
      simp only [List.set_cons_succ, List.set_cons_zero, Nat.reduceAdd]
      apply RegT.T_const rfl rfl rfl (.bool true) (fun _ _ h => h)
      · intro W hR hf
        have Hc := Lib.hid (HBA.out W)
        clear hR hf
        go_simp
        exact RegT.OpOK_enter Hc.out (fun e w' h => ⟨_, h.1, rfl, h.2⟩)
      simp only [List.set_cons_succ, List.set_cons_zero, Nat.reduceAdd]
      iterate 2
        apply RegT.T_pure rfl rfl rfl
        · intro W hR; go_simp; rfl
        simp only [List.set_cons_succ, List.set_cons_zero, Nat.reduceAdd]
      refine RegT.T_tail (fun W1 hR hf => ?_)
      have HR := Lib.hid (fun (W : World) (k : Keeps W1 W) => HR.out W (((Keeps.refl W0).drew.trans hR.block).trans k))
      have HB1 := Lib.hid (HB0.out.trans (((Below.refl _ W0).drew.trans hR).mono HB0.out.size))
      clear hR hf
      simp only [List.drop_succ_cons, List.drop_zero]
      go_wp2
      apply RegT.wp_region_T rfl 91 20 rfl (by kernel_rfl) RegT.Grow RegT.Grow.refl RegT.Grow.trans
      · apply RegT.T_pure (v := .pointer (some ⟨w.heap.size + 1, 0, none⟩)) rfl rfl rfl
        · intro W hR; clear hR; go_simp
        simp only [List.set_cons_succ, List.set_cons_zero, Nat.reduceAdd]
        apply RegT.T_pure (v := .int .u64 (b0 : Int)) rfl rfl rfl
        · intro W hR
          have hc := row_at0 (HR.out W ((Keeps.refl W1).drew.trans hR.block)).2.1
          clear hR
          go_simp
        simp only [List.set_cons_succ, List.set_cons_zero, Nat.reduceAdd]
        apply RegT.T_pure (v := .pointer (some ⟨w.heap.size + 1, 1, none⟩)) rfl rfl rfl
        · intro W hR; clear hR; go_simp
        simp only [List.set_cons_succ, List.set_cons_zero, Nat.reduceAdd]
        apply RegT.T_pure (v := .int .u64 (b1 : Int)) rfl rfl rfl
        · intro W hR
          have hc := row_at1 (HR.out W ((Keeps.refl W1).drew.trans hR.block)).2.1
          clear hR
          go_simp
        simp only [List.set_cons_succ, List.set_cons_zero, Nat.reduceAdd]
        apply RegT.T_pure (v := .pointer (some ⟨w.heap.size + 1 + 1, 0, none⟩)) rfl rfl rfl
        · intro W hR; clear hR; go_simp
        simp only [List.set_cons_succ, List.set_cons_zero, Nat.reduceAdd]
        apply RegT.T_pure (v := .int .u64 (c0 : Int)) rfl rfl rfl
        · intro W hR
          have hc := row_at0 (HR.out W ((Keeps.refl W1).drew.trans hR.block)).2.2
          clear hR
          go_simp
        simp only [List.set_cons_succ, List.set_cons_zero, Nat.reduceAdd]
        apply RegT.T_pure (v := .pointer (some ⟨w.heap.size + 1 + 1, 1, none⟩)) rfl rfl rfl
        · intro W hR; clear hR; go_simp
        simp only [List.set_cons_succ, List.set_cons_zero, Nat.reduceAdd]
        apply RegT.T_pure (v := .int .u64 (c1 : Int)) rfl rfl rfl
        · intro W hR
          have hc := row_at1 (HR.out W ((Keeps.refl W1).drew.trans hR.block)).2.2
          clear hR
          go_simp
        simp only [List.set_cons_succ, List.set_cons_zero, Nat.reduceAdd]
        apply RegT.T_const rfl rfl rfl (.bool bc) (fun _ _ h => h)
        · intro W hR hf
          have Hc := Lib.hid (HBC.out W)
          clear hR hf
          go_simp
          exact RegT.OpOK_enter Hc.out (fun e w' h => ⟨_, h.1, rfl, h.2⟩)
        simp only [List.set_cons_succ, List.set_cons_zero, Nat.reduceAdd]
        apply RegT.T_pure (v := .pointer (some ⟨w.heap.size, 0, none⟩)) rfl rfl rfl
        · intro W hR; clear hR; go_simp
        simp only [List.set_cons_succ, List.set_cons_zero, Nat.reduceAdd]
        apply RegT.T_pure (v := .int .u64 (a0 : Int)) rfl rfl rfl
        · intro W hR
          have hc := row_at0 (HR.out W ((Keeps.refl W1).drew.trans hR.block)).1
          clear hR
          go_simp
        simp only [List.set_cons_succ, List.set_cons_zero, Nat.reduceAdd]
        apply RegT.T_pure (v := .pointer (some ⟨w.heap.size, 1, none⟩)) rfl rfl rfl
        · intro W hR; clear hR; go_simp
        simp only [List.set_cons_succ, List.set_cons_zero, Nat.reduceAdd]
        apply RegT.T_pure (v := .int .u64 (a1 : Int)) rfl rfl rfl
        · intro W hR
          have hc := row_at1 (HR.out W ((Keeps.refl W1).drew.trans hR.block)).1
          clear hR
          go_simp
        simp only [List.set_cons_succ, List.set_cons_zero, Nat.reduceAdd]
        apply RegT.T_pure (v := .pointer (some ⟨w.heap.size + 1 + 1, 0, none⟩)) rfl rfl rfl
        · intro W hR; clear hR; go_simp
        simp only [List.set_cons_succ, List.set_cons_zero, Nat.reduceAdd]
        apply RegT.T_pure (v := .int .u64 (c0 : Int)) rfl rfl rfl
        · intro W hR
          have hc := row_at0 (HR.out W ((Keeps.refl W1).drew.trans hR.block)).2.2
          clear hR
          go_simp
        simp only [List.set_cons_succ, List.set_cons_zero, Nat.reduceAdd]
        apply RegT.T_pure (v := .pointer (some ⟨w.heap.size + 1 + 1, 1, none⟩)) rfl rfl rfl
        · intro W hR; clear hR; go_simp
        simp only [List.set_cons_succ, List.set_cons_zero, Nat.reduceAdd]
        apply RegT.T_pure (v := .int .u64 (c1 : Int)) rfl rfl rfl
        · intro W hR
          have hc := row_at1 (HR.out W ((Keeps.refl W1).drew.trans hR.block)).2.2
          clear hR
          go_simp
        simp only [List.set_cons_succ, List.set_cons_zero, Nat.reduceAdd]
        apply RegT.T_const rfl rfl rfl (.bool ac) (fun _ _ h => h)
        · intro W hR hf
          have Hc := Lib.hid (HAC.out W)
          clear hR hf
          go_simp
          exact RegT.OpOK_enter Hc.out (fun e w' h => ⟨_, h.1, rfl, h.2⟩)
        simp only [List.set_cons_succ, List.set_cons_zero, Nat.reduceAdd]
        iterate 2
          apply RegT.T_pure rfl rfl rfl
          · intro W hR; go_simp; rfl
          simp only [List.set_cons_succ, List.set_cons_zero, Nat.reduceAdd]
        refine RegT.T_tail (fun W2 hR hf => ?_)
        have HR := Lib.hid (fun (W : World) (k : Keeps W2 W) => HR.out W (((Keeps.refl W1).drew.trans hR.block).trans k))
        have HB2 := Lib.hid (HB1.out.trans (((Below.refl _ W1).drew.trans hR).mono HB1.out.size))
        clear hR hf
        simp only [List.drop_succ_cons, List.drop_zero]
        go_upto_region 3 with fail
        apply RegT.wp_region_F RegT.Grow RegT.Grow.refl RegT.Grow.trans
        · apply RegT.T_pure (v := .bool false) rfl rfl rfl
          · intro W hR; clear hR; go_simp
          simp only [List.set_cons_succ, List.set_cons_zero, Nat.reduceAdd]
          apply RegT.T_pure (v := .pointer (some ⟨w.heap.size, 0, none⟩)) rfl rfl rfl
          · intro W hR; clear hR; go_simp
          simp only [List.set_cons_succ, List.set_cons_zero, Nat.reduceAdd]
          apply RegT.T_pure (v := .int .u64 (a0 : Int)) rfl rfl rfl
          · intro W hR
            have hc := row_at0 (HR.out W hR.block).1
            clear hR
            go_simp
          simp only [List.set_cons_succ, List.set_cons_zero, Nat.reduceAdd]
          apply RegT.T_pure (v := .pointer (some ⟨w.heap.size, 1, none⟩)) rfl rfl rfl
          · intro W hR; clear hR; go_simp
          simp only [List.set_cons_succ, List.set_cons_zero, Nat.reduceAdd]
          apply RegT.T_pure (v := .int .u64 (a1 : Int)) rfl rfl rfl
          · intro W hR
            have hc := row_at1 (HR.out W hR.block).1
            clear hR
            go_simp
          simp only [List.set_cons_succ, List.set_cons_zero, Nat.reduceAdd]
          apply RegT.T_pure (v := .pointer (some ⟨w.heap.size + 1, 0, none⟩)) rfl rfl rfl
          · intro W hR; clear hR; go_simp
          simp only [List.set_cons_succ, List.set_cons_zero, Nat.reduceAdd]
          apply RegT.T_pure (v := .int .u64 (b0 : Int)) rfl rfl rfl
          · intro W hR
            have hc := row_at0 (HR.out W hR.block).2.1
            clear hR
            go_simp
          simp only [List.set_cons_succ, List.set_cons_zero, Nat.reduceAdd]
          apply RegT.T_pure (v := .pointer (some ⟨w.heap.size + 1, 1, none⟩)) rfl rfl rfl
          · intro W hR; clear hR; go_simp
          simp only [List.set_cons_succ, List.set_cons_zero, Nat.reduceAdd]
          apply RegT.T_pure (v := .int .u64 (b1 : Int)) rfl rfl rfl
          · intro W hR
            have hc := row_at1 (HR.out W hR.block).2.1
            clear hR
            go_simp
          simp only [List.set_cons_succ, List.set_cons_zero, Nat.reduceAdd]
          apply RegT.T_const rfl rfl rfl (.bool false) (fun _ _ h => h)
          · intro W hR hf
            have Hc := Lib.hid (HRE.out W)
            clear hR hf
            go_simp
            exact RegT.OpOK_enter Hc.out (fun e w' h => ⟨_, h.1, rfl, h.2⟩)
          simp only [List.set_cons_succ, List.set_cons_zero, Nat.reduceAdd]
          apply RegT.T_pure (v := .bool true) rfl rfl rfl
          · intro W hR; clear hR; go_simp
          simp only [List.set_cons_succ, List.set_cons_zero, Nat.reduceAdd]
          iterate 1
            apply RegT.T_pure rfl rfl rfl
            · intro W hR; go_simp; rfl
            simp only [List.set_cons_succ, List.set_cons_zero, Nat.reduceAdd]
          iterate 2
            apply RegT.T_pure rfl rfl rfl
            · intro W hR; go_simp; rfl
            simp only [List.set_cons_succ, List.set_cons_zero, Nat.reduceAdd]
          iterate 1
            apply RegT.T_skip rfl rfl rfl
            simp only [List.set_cons_succ, List.set_cons_zero, Nat.reduceAdd]
          apply RegT.T_pure (v := .bool false) rfl rfl rfl
          · intro W hR; clear hR; go_simp
          simp only [List.set_cons_succ, List.set_cons_zero, Nat.reduceAdd]
          apply RegT.T_pure (v := .bool true) rfl rfl rfl
          · intro W hR; clear hR; go_simp
          simp only [List.set_cons_succ, List.set_cons_zero, Nat.reduceAdd]
          apply RegT.T_pure (v := .bool true) rfl rfl rfl
          · intro W hR; clear hR; go_simp
          simp only [List.set_cons_succ, List.set_cons_zero, Nat.reduceAdd]
          iterate 1
            apply RegT.T_pure rfl rfl rfl
            · intro W hR; go_simp; rfl
            simp only [List.set_cons_succ, List.set_cons_zero, Nat.reduceAdd]
          iterate 1
            apply RegT.T_pure rfl rfl rfl
            · intro W hR; go_simp; rfl
            simp only [List.set_cons_succ, List.set_cons_zero, Nat.reduceAdd]
          apply RegT.T_pure (v := .bool true) rfl rfl rfl
          · intro W hR; clear hR; go_simp
          simp only [List.set_cons_succ, List.set_cons_zero, Nat.reduceAdd]
          iterate 1
            apply RegT.T_pure rfl rfl rfl
            · intro W hR; go_simp; rfl
            simp only [List.set_cons_succ, List.set_cons_zero, Nat.reduceAdd]
          iterate 1
            apply RegT.T_pure rfl rfl rfl
            · intro W hR; go_simp; rfl
            simp only [List.set_cons_succ, List.set_cons_zero, Nat.reduceAdd]
          apply RegT.T_pure (v := .bool false) rfl rfl rfl
          · intro W hR; clear hR; go_simp
          simp only [List.set_cons_succ, List.set_cons_zero, Nat.reduceAdd]
          apply RegT.T_pure (v := .bool false) rfl rfl rfl
          · intro W hR; clear hR; go_simp
          simp only [List.set_cons_succ, List.set_cons_zero, Nat.reduceAdd]
          apply RegT.T_pure (v := .agg #[.int .u64 (a0 : Int), .int .u64 (a1 : Int)]) rfl rfl rfl
          · exact fun W hR => load23 (.tmp 3) rfl rfl (HR.out W hR.block).1
          simp only [List.set_cons_succ, List.set_cons_zero, Nat.reduceAdd]
          apply RegT.T_pure (v := .agg #[.int .u64 (b0 : Int), .int .u64 (b1 : Int)]) rfl rfl rfl
          · exact fun W hR => load23 (.tmp 4) rfl rfl (HR.out W hR.block).2.1
          simp only [List.set_cons_succ, List.set_cons_zero, Nat.reduceAdd]
          apply RegT.T_pure (v := .bool false) rfl rfl rfl
          · exact fun W hR => eq23_ok (.tmp 72) (.tmp 73) rfl rfl rfl (Heq.out W)
          simp only [List.set_cons_succ, List.set_cons_zero, Nat.reduceAdd]
          apply RegT.T_pure (v := .bool true) rfl rfl rfl
          · intro W hR; clear hR; go_simp
          simp only [List.set_cons_succ, List.set_cons_zero, Nat.reduceAdd]
          apply RegT.T_pure (v := .bool true) rfl rfl rfl
          · intro W hR; clear hR; go_simp
          simp only [List.set_cons_succ, List.set_cons_zero, Nat.reduceAdd]
          iterate 1
            apply RegT.T_pure rfl rfl rfl
            · intro W hR; go_simp; rfl
            simp only [List.set_cons_succ, List.set_cons_zero, Nat.reduceAdd]
          iterate 1
            apply RegT.T_pure rfl rfl rfl
            · intro W hR; go_simp; rfl
            simp only [List.set_cons_succ, List.set_cons_zero, Nat.reduceAdd]
          apply RegT.T_pure (v := .bool true) rfl rfl rfl
          · intro W hR; clear hR; go_simp
          simp only [List.set_cons_succ, List.set_cons_zero, Nat.reduceAdd]
          iterate 1
            apply RegT.T_pure rfl rfl rfl
            · intro W hR; go_simp; rfl
            simp only [List.set_cons_succ, List.set_cons_zero, Nat.reduceAdd]
          iterate 2
            apply RegT.T_skip rfl rfl rfl
            simp only [List.set_cons_succ, List.set_cons_zero, Nat.reduceAdd]
          apply RegT.T_pure (v := .bool true) rfl rfl rfl
          · intro W hR; clear hR; go_simp
          simp only [List.set_cons_succ, List.set_cons_zero, Nat.reduceAdd]
          iterate 1
            apply RegT.T_pure rfl rfl rfl
            · intro W hR; go_simp; rfl
            simp only [List.set_cons_succ, List.set_cons_zero, Nat.reduceAdd]
          iterate 1
            apply RegT.T_skip rfl rfl rfl
            simp only [List.set_cons_succ, List.set_cons_zero, Nat.reduceAdd]
          apply RegT.T_pure (v := .bool true) rfl rfl rfl
          · intro W hR; clear hR; go_simp
          simp only [List.set_cons_succ, List.set_cons_zero, Nat.reduceAdd]
          apply RegT.T_pure (v := .bool true) rfl rfl rfl
          · intro W hR; clear hR; go_simp
          simp only [List.set_cons_succ, List.set_cons_zero, Nat.reduceAdd]
          iterate 1
            apply RegT.T_pure rfl rfl rfl
            · intro W hR; go_simp; rfl
            simp only [List.set_cons_succ, List.set_cons_zero, Nat.reduceAdd]
          apply RegT.T_const rfl rfl rfl (.bool true) (fun _ _ h => h)
          · intro W hR hf
            have Hc := Lib.hid (HKn.out W)
            clear hR hf
            go_simp
            exact RegT.OpOK_enter Hc.out (fun e w' h => ⟨_, h.1, rfl, h.2⟩)
          simp only [List.set_cons_succ, List.set_cons_zero, Nat.reduceAdd]
          apply RegT.T_pure (v := .bool true) rfl rfl rfl
          · intro W hR; clear hR; go_simp
          simp only [List.set_cons_succ, List.set_cons_zero, Nat.reduceAdd]
          iterate 1
            apply RegT.T_pure rfl rfl rfl
            · intro W hR; go_simp; rfl
            simp only [List.set_cons_succ, List.set_cons_zero, Nat.reduceAdd]
          refine RegT.T_tail (fun W3 hR hf => ?_)
          have HB3 := Lib.hid (HB2.out.trans (hR.mono HB2.out.size))
          clear hR hf
          simp only [List.drop_succ_cons, List.drop_zero]
          go_wp2
          go_ret
          exact ⟨rfl, HB3.out⟩
        · rfl
      · rfl
      · kernel_rfl
    · rfl
    · kernel_rfl
  · go_enter Try.func3, Try.ntmps3
    go_wp2
    rw [HW0.out]
    apply RegT.wp_region_T rfl 91 20 rfl (by kernel_rfl) RegT.Grow RegT.Grow.refl RegT.Grow.trans
    · apply RegT.T_pure (v := .pointer (some ⟨w.heap.size, 0, none⟩)) rfl rfl rfl
      · intro W hR; clear hR; go_simp
      simp only [List.set_cons_succ, List.set_cons_zero, Nat.reduceAdd]
      apply RegT.T_pure (v := .int .u64 (a0 : Int)) rfl rfl rfl
      · intro W hR
        have hc := row_at0 (HR.out W ((Keeps.refl W0).drew.trans hR.block)).1
        clear hR
        go_simp
      simp only [List.set_cons_succ, List.set_cons_zero, Nat.reduceAdd]
      apply RegT.T_pure (v := .pointer (some ⟨w.heap.size, 1, none⟩)) rfl rfl rfl
      · intro W hR; clear hR; go_simp
      simp only [List.set_cons_succ, List.set_cons_zero, Nat.reduceAdd]
      apply RegT.T_pure (v := .int .u64 (a1 : Int)) rfl rfl rfl
      · intro W hR
        have hc := row_at1 (HR.out W ((Keeps.refl W0).drew.trans hR.block)).1
        clear hR
        go_simp
      simp only [List.set_cons_succ, List.set_cons_zero, Nat.reduceAdd]
      apply RegT.T_pure (v := .pointer (some ⟨w.heap.size + 1, 0, none⟩)) rfl rfl rfl
      · intro W hR; clear hR; go_simp
      simp only [List.set_cons_succ, List.set_cons_zero, Nat.reduceAdd]
      apply RegT.T_pure (v := .int .u64 (b0 : Int)) rfl rfl rfl
      · intro W hR
        have hc := row_at0 (HR.out W ((Keeps.refl W0).drew.trans hR.block)).2.1
        clear hR
        go_simp
      simp only [List.set_cons_succ, List.set_cons_zero, Nat.reduceAdd]
      apply RegT.T_pure (v := .pointer (some ⟨w.heap.size + 1, 1, none⟩)) rfl rfl rfl
      · intro W hR; clear hR; go_simp
      simp only [List.set_cons_succ, List.set_cons_zero, Nat.reduceAdd]
      apply RegT.T_pure (v := .int .u64 (b1 : Int)) rfl rfl rfl
      · intro W hR
        have hc := row_at1 (HR.out W ((Keeps.refl W0).drew.trans hR.block)).2.1
        clear hR
        go_simp
      simp only [List.set_cons_succ, List.set_cons_zero, Nat.reduceAdd]
      apply RegT.T_const rfl rfl rfl (.bool true) (fun _ _ h => h)
      · intro W hR hf
        have Hc := Lib.hid (HAB.out W)
        clear hR hf
        go_simp
        exact RegT.OpOK_enter Hc.out (fun e w' h => ⟨_, h.1, rfl, h.2⟩)
      simp only [List.set_cons_succ, List.set_cons_zero, Nat.reduceAdd]
      apply RegT.T_pure (v := .pointer (some ⟨w.heap.size + 1, 0, none⟩)) rfl rfl rfl
      · intro W hR; clear hR; go_simp
      simp only [List.set_cons_succ, List.set_cons_zero, Nat.reduceAdd]
      apply RegT.T_pure (v := .int .u64 (b0 : Int)) rfl rfl rfl
      · intro W hR
        have hc := row_at0 (HR.out W ((Keeps.refl W0).drew.trans hR.block)).2.1
        clear hR
        go_simp
      simp only [List.set_cons_succ, List.set_cons_zero, Nat.reduceAdd]
      apply RegT.T_pure (v := .pointer (some ⟨w.heap.size + 1, 1, none⟩)) rfl rfl rfl
      · intro W hR; clear hR; go_simp
      simp only [List.set_cons_succ, List.set_cons_zero, Nat.reduceAdd]
      apply RegT.T_pure (v := .int .u64 (b1 : Int)) rfl rfl rfl
      · intro W hR
        have hc := row_at1 (HR.out W ((Keeps.refl W0).drew.trans hR.block)).2.1
        clear hR
        go_simp
      simp only [List.set_cons_succ, List.set_cons_zero, Nat.reduceAdd]
      apply RegT.T_pure (v := .pointer (some ⟨w.heap.size, 0, none⟩)) rfl rfl rfl
      · intro W hR; clear hR; go_simp
      simp only [List.set_cons_succ, List.set_cons_zero, Nat.reduceAdd]
      apply RegT.T_pure (v := .int .u64 (a0 : Int)) rfl rfl rfl
      · intro W hR
        have hc := row_at0 (HR.out W ((Keeps.refl W0).drew.trans hR.block)).1
        clear hR
        go_simp
      simp only [List.set_cons_succ, List.set_cons_zero, Nat.reduceAdd]
      apply RegT.T_pure (v := .pointer (some ⟨w.heap.size, 1, none⟩)) rfl rfl rfl
      · intro W hR; clear hR; go_simp
      simp only [List.set_cons_succ, List.set_cons_zero, Nat.reduceAdd]
      apply RegT.T_pure (v := .int .u64 (a1 : Int)) rfl rfl rfl
      · intro W hR
        have hc := row_at1 (HR.out W ((Keeps.refl W0).drew.trans hR.block)).1
        clear hR
        go_simp
      simp only [List.set_cons_succ, List.set_cons_zero, Nat.reduceAdd]
      apply RegT.T_const rfl rfl rfl (.bool false) (fun _ _ h => h)
      · intro W hR hf
        have Hc := Lib.hid (HBA.out W)
        clear hR hf
        go_simp
        exact RegT.OpOK_enter Hc.out (fun e w' h => ⟨_, h.1, rfl, h.2⟩)
      simp only [List.set_cons_succ, List.set_cons_zero, Nat.reduceAdd]
      iterate 2
        apply RegT.T_pure rfl rfl rfl
        · intro W hR; go_simp; rfl
        simp only [List.set_cons_succ, List.set_cons_zero, Nat.reduceAdd]
      refine RegT.T_tail (fun W1 hR hf => ?_)
      have HR := Lib.hid (fun (W : World) (k : Keeps W1 W) => HR.out W (((Keeps.refl W0).drew.trans hR.block).trans k))
      have HB1 := Lib.hid (HB0.out.trans (((Below.refl _ W0).drew.trans hR).mono HB0.out.size))
      clear hR hf
      simp only [List.drop_succ_cons, List.drop_zero]
      go_wp2
      apply RegT.wp_region_T rfl 91 20 rfl (by kernel_rfl) RegT.Grow RegT.Grow.refl RegT.Grow.trans
      · apply RegT.T_pure (v := .pointer (some ⟨w.heap.size + 1, 0, none⟩)) rfl rfl rfl
        · intro W hR; clear hR; go_simp
        simp only [List.set_cons_succ, List.set_cons_zero, Nat.reduceAdd]
        apply RegT.T_pure (v := .int .u64 (b0 : Int)) rfl rfl rfl
        · intro W hR
          have hc := row_at0 (HR.out W ((Keeps.refl W1).drew.trans hR.block)).2.1
          clear hR
          go_simp
        simp only [List.set_cons_succ, List.set_cons_zero, Nat.reduceAdd]
        apply RegT.T_pure (v := .pointer (some ⟨w.heap.size + 1, 1, none⟩)) rfl rfl rfl
        · intro W hR; clear hR; go_simp
        simp only [List.set_cons_succ, List.set_cons_zero, Nat.reduceAdd]
        apply RegT.T_pure (v := .int .u64 (b1 : Int)) rfl rfl rfl
        · intro W hR
          have hc := row_at1 (HR.out W ((Keeps.refl W1).drew.trans hR.block)).2.1
          clear hR
          go_simp
        simp only [List.set_cons_succ, List.set_cons_zero, Nat.reduceAdd]
        apply RegT.T_pure (v := .pointer (some ⟨w.heap.size + 1 + 1, 0, none⟩)) rfl rfl rfl
        · intro W hR; clear hR; go_simp
        simp only [List.set_cons_succ, List.set_cons_zero, Nat.reduceAdd]
        apply RegT.T_pure (v := .int .u64 (c0 : Int)) rfl rfl rfl
        · intro W hR
          have hc := row_at0 (HR.out W ((Keeps.refl W1).drew.trans hR.block)).2.2
          clear hR
          go_simp
        simp only [List.set_cons_succ, List.set_cons_zero, Nat.reduceAdd]
        apply RegT.T_pure (v := .pointer (some ⟨w.heap.size + 1 + 1, 1, none⟩)) rfl rfl rfl
        · intro W hR; clear hR; go_simp
        simp only [List.set_cons_succ, List.set_cons_zero, Nat.reduceAdd]
        apply RegT.T_pure (v := .int .u64 (c1 : Int)) rfl rfl rfl
        · intro W hR
          have hc := row_at1 (HR.out W ((Keeps.refl W1).drew.trans hR.block)).2.2
          clear hR
          go_simp
        simp only [List.set_cons_succ, List.set_cons_zero, Nat.reduceAdd]
        apply RegT.T_const rfl rfl rfl (.bool false) (fun _ _ h => h)
        · intro W hR hf
          have Hc := Lib.hid (HBC.out W)
          clear hR hf
          go_simp
          exact RegT.OpOK_enter Hc.out (fun e w' h => ⟨_, h.1, rfl, h.2⟩)
        simp only [List.set_cons_succ, List.set_cons_zero, Nat.reduceAdd]
        apply RegT.T_pure (v := .pointer (some ⟨w.heap.size, 0, none⟩)) rfl rfl rfl
        · intro W hR; clear hR; go_simp
        simp only [List.set_cons_succ, List.set_cons_zero, Nat.reduceAdd]
        apply RegT.T_pure (v := .int .u64 (a0 : Int)) rfl rfl rfl
        · intro W hR
          have hc := row_at0 (HR.out W ((Keeps.refl W1).drew.trans hR.block)).1
          clear hR
          go_simp
        simp only [List.set_cons_succ, List.set_cons_zero, Nat.reduceAdd]
        apply RegT.T_pure (v := .pointer (some ⟨w.heap.size, 1, none⟩)) rfl rfl rfl
        · intro W hR; clear hR; go_simp
        simp only [List.set_cons_succ, List.set_cons_zero, Nat.reduceAdd]
        apply RegT.T_pure (v := .int .u64 (a1 : Int)) rfl rfl rfl
        · intro W hR
          have hc := row_at1 (HR.out W ((Keeps.refl W1).drew.trans hR.block)).1
          clear hR
          go_simp
        simp only [List.set_cons_succ, List.set_cons_zero, Nat.reduceAdd]
        apply RegT.T_pure (v := .pointer (some ⟨w.heap.size + 1 + 1, 0, none⟩)) rfl rfl rfl
        · intro W hR; clear hR; go_simp
        simp only [List.set_cons_succ, List.set_cons_zero, Nat.reduceAdd]
        apply RegT.T_pure (v := .int .u64 (c0 : Int)) rfl rfl rfl
        · intro W hR
          have hc := row_at0 (HR.out W ((Keeps.refl W1).drew.trans hR.block)).2.2
          clear hR
          go_simp
        simp only [List.set_cons_succ, List.set_cons_zero, Nat.reduceAdd]
        apply RegT.T_pure (v := .pointer (some ⟨w.heap.size + 1 + 1, 1, none⟩)) rfl rfl rfl
        · intro W hR; clear hR; go_simp
        simp only [List.set_cons_succ, List.set_cons_zero, Nat.reduceAdd]
        apply RegT.T_pure (v := .int .u64 (c1 : Int)) rfl rfl rfl
        · intro W hR
          have hc := row_at1 (HR.out W ((Keeps.refl W1).drew.trans hR.block)).2.2
          clear hR
          go_simp
        simp only [List.set_cons_succ, List.set_cons_zero, Nat.reduceAdd]
        apply RegT.T_const rfl rfl rfl (.bool ac) (fun _ _ h => h)
        · intro W hR hf
          have Hc := Lib.hid (HAC.out W)
          clear hR hf
          go_simp
          exact RegT.OpOK_enter Hc.out (fun e w' h => ⟨_, h.1, rfl, h.2⟩)
        simp only [List.set_cons_succ, List.set_cons_zero, Nat.reduceAdd]
        iterate 2
          apply RegT.T_pure rfl rfl rfl
          · intro W hR; go_simp; rfl
          simp only [List.set_cons_succ, List.set_cons_zero, Nat.reduceAdd]
        refine RegT.T_tail (fun W2 hR hf => ?_)
        have HR := Lib.hid (fun (W : World) (k : Keeps W2 W) => HR.out W (((Keeps.refl W1).drew.trans hR.block).trans k))
        have HB2 := Lib.hid (HB1.out.trans (((Below.refl _ W1).drew.trans hR).mono HB1.out.size))
        clear hR hf
        simp only [List.drop_succ_cons, List.drop_zero]
        go_upto_region 3 with fail
        apply RegT.wp_region_F RegT.Grow RegT.Grow.refl RegT.Grow.trans
        · apply RegT.T_pure (v := .bool true) rfl rfl rfl
          · intro W hR; clear hR; go_simp
          simp only [List.set_cons_succ, List.set_cons_zero, Nat.reduceAdd]
          apply RegT.T_pure (v := .pointer (some ⟨w.heap.size, 0, none⟩)) rfl rfl rfl
          · intro W hR; clear hR; go_simp
          simp only [List.set_cons_succ, List.set_cons_zero, Nat.reduceAdd]
          apply RegT.T_pure (v := .int .u64 (a0 : Int)) rfl rfl rfl
          · intro W hR
            have hc := row_at0 (HR.out W hR.block).1
            clear hR
            go_simp
          simp only [List.set_cons_succ, List.set_cons_zero, Nat.reduceAdd]
          apply RegT.T_pure (v := .pointer (some ⟨w.heap.size, 1, none⟩)) rfl rfl rfl
          · intro W hR; clear hR; go_simp
          simp only [List.set_cons_succ, List.set_cons_zero, Nat.reduceAdd]
          apply RegT.T_pure (v := .int .u64 (a1 : Int)) rfl rfl rfl
          · intro W hR
            have hc := row_at1 (HR.out W hR.block).1
            clear hR
            go_simp
          simp only [List.set_cons_succ, List.set_cons_zero, Nat.reduceAdd]
          apply RegT.T_pure (v := .pointer (some ⟨w.heap.size + 1, 0, none⟩)) rfl rfl rfl
          · intro W hR; clear hR; go_simp
          simp only [List.set_cons_succ, List.set_cons_zero, Nat.reduceAdd]
          apply RegT.T_pure (v := .int .u64 (b0 : Int)) rfl rfl rfl
          · intro W hR
            have hc := row_at0 (HR.out W hR.block).2.1
            clear hR
            go_simp
          simp only [List.set_cons_succ, List.set_cons_zero, Nat.reduceAdd]
          apply RegT.T_pure (v := .pointer (some ⟨w.heap.size + 1, 1, none⟩)) rfl rfl rfl
          · intro W hR; clear hR; go_simp
          simp only [List.set_cons_succ, List.set_cons_zero, Nat.reduceAdd]
          apply RegT.T_pure (v := .int .u64 (b1 : Int)) rfl rfl rfl
          · intro W hR
            have hc := row_at1 (HR.out W hR.block).2.1
            clear hR
            go_simp
          simp only [List.set_cons_succ, List.set_cons_zero, Nat.reduceAdd]
          apply RegT.T_const rfl rfl rfl (.bool true) (fun _ _ h => h)
          · intro W hR hf
            have Hc := Lib.hid (HRE.out W)
            clear hR hf
            go_simp
            exact RegT.OpOK_enter Hc.out (fun e w' h => ⟨_, h.1, rfl, h.2⟩)
          simp only [List.set_cons_succ, List.set_cons_zero, Nat.reduceAdd]
          apply RegT.T_pure (v := .bool true) rfl rfl rfl
          · intro W hR; clear hR; go_simp
          simp only [List.set_cons_succ, List.set_cons_zero, Nat.reduceAdd]
          iterate 1
            apply RegT.T_pure rfl rfl rfl
            · intro W hR; go_simp; rfl
            simp only [List.set_cons_succ, List.set_cons_zero, Nat.reduceAdd]
          iterate 2
            apply RegT.T_pure rfl rfl rfl
            · intro W hR; go_simp; rfl
            simp only [List.set_cons_succ, List.set_cons_zero, Nat.reduceAdd]
          iterate 1
            apply RegT.T_pure rfl rfl rfl
            · intro W hR; go_simp; rfl
            simp only [List.set_cons_succ, List.set_cons_zero, Nat.reduceAdd]
          apply RegT.T_pure (v := .bool false) rfl rfl rfl
          · intro W hR; clear hR; go_simp
          simp only [List.set_cons_succ, List.set_cons_zero, Nat.reduceAdd]
          apply RegT.T_pure (v := .bool true) rfl rfl rfl
          · intro W hR; clear hR; go_simp
          simp only [List.set_cons_succ, List.set_cons_zero, Nat.reduceAdd]
          apply RegT.T_pure (v := .bool true) rfl rfl rfl
          · intro W hR; clear hR; go_simp
          simp only [List.set_cons_succ, List.set_cons_zero, Nat.reduceAdd]
          iterate 1
            apply RegT.T_pure rfl rfl rfl
            · intro W hR; go_simp; rfl
            simp only [List.set_cons_succ, List.set_cons_zero, Nat.reduceAdd]
          iterate 1
            apply RegT.T_pure rfl rfl rfl
            · intro W hR; go_simp; rfl
            simp only [List.set_cons_succ, List.set_cons_zero, Nat.reduceAdd]
          apply RegT.T_pure (v := .bool false) rfl rfl rfl
          · intro W hR; clear hR; go_simp
          simp only [List.set_cons_succ, List.set_cons_zero, Nat.reduceAdd]
          iterate 1
            apply RegT.T_pure rfl rfl rfl
            · intro W hR; go_simp; rfl
            simp only [List.set_cons_succ, List.set_cons_zero, Nat.reduceAdd]
          iterate 2
            apply RegT.T_skip rfl rfl rfl
            simp only [List.set_cons_succ, List.set_cons_zero, Nat.reduceAdd]
          apply RegT.T_pure (v := .bool false) rfl rfl rfl
          · intro W hR; clear hR; go_simp
          simp only [List.set_cons_succ, List.set_cons_zero, Nat.reduceAdd]
          apply RegT.T_pure (v := .agg #[.int .u64 (a0 : Int), .int .u64 (a1 : Int)]) rfl rfl rfl
          · exact fun W hR => load23 (.tmp 3) rfl rfl (HR.out W hR.block).1
          simp only [List.set_cons_succ, List.set_cons_zero, Nat.reduceAdd]
          apply RegT.T_pure (v := .agg #[.int .u64 (b0 : Int), .int .u64 (b1 : Int)]) rfl rfl rfl
          · exact fun W hR => load23 (.tmp 4) rfl rfl (HR.out W hR.block).2.1
          simp only [List.set_cons_succ, List.set_cons_zero, Nat.reduceAdd]
          apply RegT.T_pure (v := .bool false) rfl rfl rfl
          · exact fun W hR => eq23_ok (.tmp 72) (.tmp 73) rfl rfl rfl (Heq.out W)
          simp only [List.set_cons_succ, List.set_cons_zero, Nat.reduceAdd]
          apply RegT.T_pure (v := .bool true) rfl rfl rfl
          · intro W hR; clear hR; go_simp
          simp only [List.set_cons_succ, List.set_cons_zero, Nat.reduceAdd]
          apply RegT.T_pure (v := .bool true) rfl rfl rfl
          · intro W hR; clear hR; go_simp
          simp only [List.set_cons_succ, List.set_cons_zero, Nat.reduceAdd]
          iterate 1
            apply RegT.T_pure rfl rfl rfl
            · intro W hR; go_simp; rfl
            simp only [List.set_cons_succ, List.set_cons_zero, Nat.reduceAdd]
          iterate 1
            apply RegT.T_pure rfl rfl rfl
            · intro W hR; go_simp; rfl
            simp only [List.set_cons_succ, List.set_cons_zero, Nat.reduceAdd]
          apply RegT.T_pure (v := .bool false) rfl rfl rfl
          · intro W hR; clear hR; go_simp
          simp only [List.set_cons_succ, List.set_cons_zero, Nat.reduceAdd]
          iterate 1
            apply RegT.T_pure rfl rfl rfl
            · intro W hR; go_simp; rfl
            simp only [List.set_cons_succ, List.set_cons_zero, Nat.reduceAdd]
          iterate 1
            apply RegT.T_pure rfl rfl rfl
            · intro W hR; go_simp; rfl
            simp only [List.set_cons_succ, List.set_cons_zero, Nat.reduceAdd]
          apply RegT.T_pure (v := .bool true) rfl rfl rfl
          · intro W hR; clear hR; go_simp
          simp only [List.set_cons_succ, List.set_cons_zero, Nat.reduceAdd]
          apply RegT.T_pure (v := .bool true) rfl rfl rfl
          · intro W hR; clear hR; go_simp
          simp only [List.set_cons_succ, List.set_cons_zero, Nat.reduceAdd]
          iterate 1
            apply RegT.T_pure rfl rfl rfl
            · intro W hR; go_simp; rfl
            simp only [List.set_cons_succ, List.set_cons_zero, Nat.reduceAdd]
          iterate 1
            apply RegT.T_skip rfl rfl rfl
            simp only [List.set_cons_succ, List.set_cons_zero, Nat.reduceAdd]
          apply RegT.T_pure (v := .bool true) rfl rfl rfl
          · intro W hR; clear hR; go_simp
          simp only [List.set_cons_succ, List.set_cons_zero, Nat.reduceAdd]
          apply RegT.T_pure (v := .bool true) rfl rfl rfl
          · intro W hR; clear hR; go_simp
          simp only [List.set_cons_succ, List.set_cons_zero, Nat.reduceAdd]
          iterate 1
            apply RegT.T_pure rfl rfl rfl
            · intro W hR; go_simp; rfl
            simp only [List.set_cons_succ, List.set_cons_zero, Nat.reduceAdd]
          apply RegT.T_const rfl rfl rfl (.bool true) (fun _ _ h => h)
          · intro W hR hf
            have Hc := Lib.hid (HKn.out W)
            clear hR hf
            go_simp
            exact RegT.OpOK_enter Hc.out (fun e w' h => ⟨_, h.1, rfl, h.2⟩)
          simp only [List.set_cons_succ, List.set_cons_zero, Nat.reduceAdd]
          apply RegT.T_pure (v := .bool true) rfl rfl rfl
          · intro W hR; clear hR; go_simp
          simp only [List.set_cons_succ, List.set_cons_zero, Nat.reduceAdd]
          iterate 1
            apply RegT.T_pure rfl rfl rfl
            · intro W hR; go_simp; rfl
            simp only [List.set_cons_succ, List.set_cons_zero, Nat.reduceAdd]
          refine RegT.T_tail (fun W3 hR hf => ?_)
          have HB3 := Lib.hid (HB2.out.trans (hR.mono HB2.out.size))
          clear hR hf
          simp only [List.drop_succ_cons, List.drop_zero]
          go_wp2
          go_ret
          exact ⟨rfl, HB3.out⟩
        · rfl
      · rfl
      · kernel_rfl
    · rfl
    · kernel_rfl
  · go_enter Try.func3, Try.ntmps3
    go_wp2
    rw [HW0.out]
    apply RegT.wp_region_T rfl 91 20 rfl (by kernel_rfl) RegT.Grow RegT.Grow.refl RegT.Grow.trans
    · apply RegT.T_pure (v := .pointer (some ⟨w.heap.size, 0, none⟩)) rfl rfl rfl
      · intro W hR; clear hR; go_simp
      simp only [List.set_cons_succ, List.set_cons_zero, Nat.reduceAdd]
      apply RegT.T_pure (v := .int .u64 (a0 : Int)) rfl rfl rfl
      · intro W hR
        have hc := row_at0 (HR.out W ((Keeps.refl W0).drew.trans hR.block)).1
        clear hR
        go_simp
      simp only [List.set_cons_succ, List.set_cons_zero, Nat.reduceAdd]
      apply RegT.T_pure (v := .pointer (some ⟨w.heap.size, 1, none⟩)) rfl rfl rfl
      · intro W hR; clear hR; go_simp
      simp only [List.set_cons_succ, List.set_cons_zero, Nat.reduceAdd]
      apply RegT.T_pure (v := .int .u64 (a1 : Int)) rfl rfl rfl
      · intro W hR
        have hc := row_at1 (HR.out W ((Keeps.refl W0).drew.trans hR.block)).1
        clear hR
        go_simp
      simp only [List.set_cons_succ, List.set_cons_zero, Nat.reduceAdd]
      apply RegT.T_pure (v := .pointer (some ⟨w.heap.size + 1, 0, none⟩)) rfl rfl rfl
      · intro W hR; clear hR; go_simp
      simp only [List.set_cons_succ, List.set_cons_zero, Nat.reduceAdd]
      apply RegT.T_pure (v := .int .u64 (b0 : Int)) rfl rfl rfl
      · intro W hR
        have hc := row_at0 (HR.out W ((Keeps.refl W0).drew.trans hR.block)).2.1
        clear hR
        go_simp
      simp only [List.set_cons_succ, List.set_cons_zero, Nat.reduceAdd]
      apply RegT.T_pure (v := .pointer (some ⟨w.heap.size + 1, 1, none⟩)) rfl rfl rfl
      · intro W hR; clear hR; go_simp
      simp only [List.set_cons_succ, List.set_cons_zero, Nat.reduceAdd]
      apply RegT.T_pure (v := .int .u64 (b1 : Int)) rfl rfl rfl
      · intro W hR
        have hc := row_at1 (HR.out W ((Keeps.refl W0).drew.trans hR.block)).2.1
        clear hR
        go_simp
      simp only [List.set_cons_succ, List.set_cons_zero, Nat.reduceAdd]
      apply RegT.T_const rfl rfl rfl (.bool true) (fun _ _ h => h)
      · intro W hR hf
        have Hc := Lib.hid (HAB.out W)
        clear hR hf
        go_simp
        exact RegT.OpOK_enter Hc.out (fun e w' h => ⟨_, h.1, rfl, h.2⟩)
      simp only [List.set_cons_succ, List.set_cons_zero, Nat.reduceAdd]
      apply RegT.T_pure (v := .pointer (some ⟨w.heap.size + 1, 0, none⟩)) rfl rfl rfl
      · intro W hR; clear hR; go_simp
      simp only [List.set_cons_succ, List.set_cons_zero, Nat.reduceAdd]
      apply RegT.T_pure (v := .int .u64 (b0 : Int)) rfl rfl rfl
      · intro W hR
        have hc := row_at0 (HR.out W ((Keeps.refl W0).drew.trans hR.block)).2.1
        clear hR
        go_simp
      simp only [List.set_cons_succ, List.set_cons_zero, Nat.reduceAdd]
      apply RegT.T_pure (v := .pointer (some ⟨w.heap.size + 1, 1, none⟩)) rfl rfl rfl
      · intro W hR; clear hR; go_simp
      simp only [List.set_cons_succ, List.set_cons_zero, Nat.reduceAdd]
      apply RegT.T_pure (v := .int .u64 (b1 : Int)) rfl rfl rfl
      · intro W hR
        have hc := row_at1 (HR.out W ((Keeps.refl W0).drew.trans hR.block)).2.1
        clear hR
        go_simp
      simp only [List.set_cons_succ, List.set_cons_zero, Nat.reduceAdd]
      apply RegT.T_pure (v := .pointer (some ⟨w.heap.size, 0, none⟩)) rfl rfl rfl
      · intro W hR; clear hR; go_simp
      simp only [List.set_cons_succ, List.set_cons_zero, Nat.reduceAdd]
      apply RegT.T_pure (v := .int .u64 (a0 : Int)) rfl rfl rfl
      · intro W hR
        have hc := row_at0 (HR.out W ((Keeps.refl W0).drew.trans hR.block)).1
        clear hR
        go_simp
      simp only [List.set_cons_succ, List.set_cons_zero, Nat.reduceAdd]
      apply RegT.T_pure (v := .pointer (some ⟨w.heap.size, 1, none⟩)) rfl rfl rfl
      · intro W hR; clear hR; go_simp
      simp only [List.set_cons_succ, List.set_cons_zero, Nat.reduceAdd]
      apply RegT.T_pure (v := .int .u64 (a1 : Int)) rfl rfl rfl
      · intro W hR
        have hc := row_at1 (HR.out W ((Keeps.refl W0).drew.trans hR.block)).1
        clear hR
        go_simp
      simp only [List.set_cons_succ, List.set_cons_zero, Nat.reduceAdd]
      apply RegT.T_const rfl rfl rfl (.bool false) (fun _ _ h => h)
      · intro W hR hf
        have Hc := Lib.hid (HBA.out W)
        clear hR hf
        go_simp
        exact RegT.OpOK_enter Hc.out (fun e w' h => ⟨_, h.1, rfl, h.2⟩)
      simp only [List.set_cons_succ, List.set_cons_zero, Nat.reduceAdd]
      iterate 2
        apply RegT.T_pure rfl rfl rfl
        · intro W hR; go_simp; rfl
        simp only [List.set_cons_succ, List.set_cons_zero, Nat.reduceAdd]
      refine RegT.T_tail (fun W1 hR hf => ?_)
      have HR := Lib.hid (fun (W : World) (k : Keeps W1 W) => HR.out W (((Keeps.refl W0).drew.trans hR.block).trans k))
      have HB1 := Lib.hid (HB0.out.trans (((Below.refl _ W0).drew.trans hR).mono HB0.out.size))
      clear hR hf
      simp only [List.drop_succ_cons, List.drop_zero]
      go_wp2
      apply RegT.wp_region_T rfl 91 20 rfl (by kernel_rfl) RegT.Grow RegT.Grow.refl RegT.Grow.trans
      · apply RegT.T_pure (v := .pointer (some ⟨w.heap.size + 1, 0, none⟩)) rfl rfl rfl
        · intro W hR; clear hR; go_simp
        simp only [List.set_cons_succ, List.set_cons_zero, Nat.reduceAdd]
        apply RegT.T_pure (v := .int .u64 (b0 : Int)) rfl rfl rfl
        · intro W hR
          have hc := row_at0 (HR.out W ((Keeps.refl W1).drew.trans hR.block)).2.1
          clear hR
          go_simp
        simp only [List.set_cons_succ, List.set_cons_zero, Nat.reduceAdd]
        apply RegT.T_pure (v := .pointer (some ⟨w.heap.size + 1, 1, none⟩)) rfl rfl rfl
        · intro W hR; clear hR; go_simp
        simp only [List.set_cons_succ, List.set_cons_zero, Nat.reduceAdd]
        apply RegT.T_pure (v := .int .u64 (b1 : Int)) rfl rfl rfl
        · intro W hR
          have hc := row_at1 (HR.out W ((Keeps.refl W1).drew.trans hR.block)).2.1
          clear hR
          go_simp
        simp only [List.set_cons_succ, List.set_cons_zero, Nat.reduceAdd]
        apply RegT.T_pure (v := .pointer (some ⟨w.heap.size + 1 + 1, 0, none⟩)) rfl rfl rfl
        · intro W hR; clear hR; go_simp
        simp only [List.set_cons_succ, List.set_cons_zero, Nat.reduceAdd]
        apply RegT.T_pure (v := .int .u64 (c0 : Int)) rfl rfl rfl
        · intro W hR
          have hc := row_at0 (HR.out W ((Keeps.refl W1).drew.trans hR.block)).2.2
          clear hR
          go_simp
        simp only [List.set_cons_succ, List.set_cons_zero, Nat.reduceAdd]
        apply RegT.T_pure (v := .pointer (some ⟨w.heap.size + 1 + 1, 1, none⟩)) rfl rfl rfl
        · intro W hR; clear hR; go_simp
        simp only [List.set_cons_succ, List.set_cons_zero, Nat.reduceAdd]
        apply RegT.T_pure (v := .int .u64 (c1 : Int)) rfl rfl rfl
        · intro W hR
          have hc := row_at1 (HR.out W ((Keeps.refl W1).drew.trans hR.block)).2.2
          clear hR
          go_simp
        simp only [List.set_cons_succ, List.set_cons_zero, Nat.reduceAdd]
        apply RegT.T_const rfl rfl rfl (.bool true) (fun _ _ h => h)
        · intro W hR hf
          have Hc := Lib.hid (HBC.out W)
          clear hR hf
          go_simp
          exact RegT.OpOK_enter Hc.out (fun e w' h => ⟨_, h.1, rfl, h.2⟩)
        simp only [List.set_cons_succ, List.set_cons_zero, Nat.reduceAdd]
        apply RegT.T_pure (v := .pointer (some ⟨w.heap.size, 0, none⟩)) rfl rfl rfl
        · intro W hR; clear hR; go_simp
        simp only [List.set_cons_succ, List.set_cons_zero, Nat.reduceAdd]
        apply RegT.T_pure (v := .int .u64 (a0 : Int)) rfl rfl rfl
        · intro W hR
          have hc := row_at0 (HR.out W ((Keeps.refl W1).drew.trans hR.block)).1
          clear hR
          go_simp
        simp only [List.set_cons_succ, List.set_cons_zero, Nat.reduceAdd]
        apply RegT.T_pure (v := .pointer (some ⟨w.heap.size, 1, none⟩)) rfl rfl rfl
        · intro W hR; clear hR; go_simp
        simp only [List.set_cons_succ, List.set_cons_zero, Nat.reduceAdd]
        apply RegT.T_pure (v := .int .u64 (a1 : Int)) rfl rfl rfl
        · intro W hR
          have hc := row_at1 (HR.out W ((Keeps.refl W1).drew.trans hR.block)).1
          clear hR
          go_simp
        simp only [List.set_cons_succ, List.set_cons_zero, Nat.reduceAdd]
        apply RegT.T_pure (v := .pointer (some ⟨w.heap.size + 1 + 1, 0, none⟩)) rfl rfl rfl
        · intro W hR; clear hR; go_simp
        simp only [List.set_cons_succ, List.set_cons_zero, Nat.reduceAdd]
        apply RegT.T_pure (v := .int .u64 (c0 : Int)) rfl rfl rfl
        · intro W hR
          have hc := row_at0 (HR.out W ((Keeps.refl W1).drew.trans hR.block)).2.2
          clear hR
          go_simp
        simp only [List.set_cons_succ, List.set_cons_zero, Nat.reduceAdd]
        apply RegT.T_pure (v := .pointer (some ⟨w.heap.size + 1 + 1, 1, none⟩)) rfl rfl rfl
        · intro W hR; clear hR; go_simp
        simp only [List.set_cons_succ, List.set_cons_zero, Nat.reduceAdd]
        apply RegT.T_pure (v := .int .u64 (c1 : Int)) rfl rfl rfl
        · intro W hR
          have hc := row_at1 (HR.out W ((Keeps.refl W1).drew.trans hR.block)).2.2
          clear hR
          go_simp
        simp only [List.set_cons_succ, List.set_cons_zero, Nat.reduceAdd]
        apply RegT.T_const rfl rfl rfl (.bool true) (fun _ _ h => h)
        · intro W hR hf
          have Hc := Lib.hid (HAC.out W)
          clear hR hf
          go_simp
          exact RegT.OpOK_enter Hc.out (fun e w' h => ⟨_, h.1, rfl, h.2⟩)
        simp only [List.set_cons_succ, List.set_cons_zero, Nat.reduceAdd]
        iterate 2
          apply RegT.T_pure rfl rfl rfl
          · intro W hR; go_simp; rfl
          simp only [List.set_cons_succ, List.set_cons_zero, Nat.reduceAdd]
        refine RegT.T_tail (fun W2 hR hf => ?_)
        have HR := Lib.hid (fun (W : World) (k : Keeps W2 W) => HR.out W (((Keeps.refl W1).drew.trans hR.block).trans k))
        have HB2 := Lib.hid (HB1.out.trans (((Below.refl _ W1).drew.trans hR).mono HB1.out.size))
        clear hR hf
        simp only [List.drop_succ_cons, List.drop_zero]
        go_upto_region 3 with fail
        apply RegT.wp_region_F RegT.Grow RegT.Grow.refl RegT.Grow.trans
        · apply RegT.T_pure (v := .bool true) rfl rfl rfl
          · intro W hR; clear hR; go_simp
          simp only [List.set_cons_succ, List.set_cons_zero, Nat.reduceAdd]
          apply RegT.T_pure (v := .pointer (some ⟨w.heap.size, 0, none⟩)) rfl rfl rfl
          · intro W hR; clear hR; go_simp
          simp only [List.set_cons_succ, List.set_cons_zero, Nat.reduceAdd]
          apply RegT.T_pure (v := .int .u64 (a0 : Int)) rfl rfl rfl
          · intro W hR
            have hc := row_at0 (HR.out W hR.block).1
            clear hR
            go_simp
          simp only [List.set_cons_succ, List.set_cons_zero, Nat.reduceAdd]
          apply RegT.T_pure (v := .pointer (some ⟨w.heap.size, 1, none⟩)) rfl rfl rfl
          · intro W hR; clear hR; go_simp
          simp only [List.set_cons_succ, List.set_cons_zero, Nat.reduceAdd]
          apply RegT.T_pure (v := .int .u64 (a1 : Int)) rfl rfl rfl
          · intro W hR
            have hc := row_at1 (HR.out W hR.block).1
            clear hR
            go_simp
          simp only [List.set_cons_succ, List.set_cons_zero, Nat.reduceAdd]
          apply RegT.T_pure (v := .pointer (some ⟨w.heap.size + 1, 0, none⟩)) rfl rfl rfl
          · intro W hR; clear hR; go_simp
          simp only [List.set_cons_succ, List.set_cons_zero, Nat.reduceAdd]
          apply RegT.T_pure (v := .int .u64 (b0 : Int)) rfl rfl rfl
          · intro W hR
            have hc := row_at0 (HR.out W hR.block).2.1
            clear hR
            go_simp
          simp only [List.set_cons_succ, List.set_cons_zero, Nat.reduceAdd]
          apply RegT.T_pure (v := .pointer (some ⟨w.heap.size + 1, 1, none⟩)) rfl rfl rfl
          · intro W hR; clear hR; go_simp
          simp only [List.set_cons_succ, List.set_cons_zero, Nat.reduceAdd]
          apply RegT.T_pure (v := .int .u64 (b1 : Int)) rfl rfl rfl
          · intro W hR
            have hc := row_at1 (HR.out W hR.block).2.1
            clear hR
            go_simp
          simp only [List.set_cons_succ, List.set_cons_zero, Nat.reduceAdd]
          apply RegT.T_const rfl rfl rfl (.bool true) (fun _ _ h => h)
          · intro W hR hf
            have Hc := Lib.hid (HRE.out W)
            clear hR hf
            go_simp
            exact RegT.OpOK_enter Hc.out (fun e w' h => ⟨_, h.1, rfl, h.2⟩)
          simp only [List.set_cons_succ, List.set_cons_zero, Nat.reduceAdd]
          apply RegT.T_pure (v := .bool true) rfl rfl rfl
          · intro W hR; clear hR; go_simp
          simp only [List.set_cons_succ, List.set_cons_zero, Nat.reduceAdd]
          iterate 1
            apply RegT.T_pure rfl rfl rfl
            · intro W hR; go_simp; rfl
            simp only [List.set_cons_succ, List.set_cons_zero, Nat.reduceAdd]
          iterate 2
            apply RegT.T_pure rfl rfl rfl
            · intro W hR; go_simp; rfl
            simp only [List.set_cons_succ, List.set_cons_zero, Nat.reduceAdd]
          iterate 1
            apply RegT.T_pure rfl rfl rfl
            · intro W hR; go_simp; rfl
            simp only [List.set_cons_succ, List.set_cons_zero, Nat.reduceAdd]
          apply RegT.T_pure (v := .bool false) rfl rfl rfl
          · intro W hR; clear hR; go_simp
          simp only [List.set_cons_succ, List.set_cons_zero, Nat.reduceAdd]
          apply RegT.T_pure (v := .bool true) rfl rfl rfl
          · intro W hR; clear hR; go_simp
          simp only [List.set_cons_succ, List.set_cons_zero, Nat.reduceAdd]
          apply RegT.T_pure (v := .bool true) rfl rfl rfl
          · intro W hR; clear hR; go_simp
          simp only [List.set_cons_succ, List.set_cons_zero, Nat.reduceAdd]
          iterate 1
            apply RegT.T_pure rfl rfl rfl
            · intro W hR; go_simp; rfl
            simp only [List.set_cons_succ, List.set_cons_zero, Nat.reduceAdd]
          iterate 1
            apply RegT.T_pure rfl rfl rfl
            · intro W hR; go_simp; rfl
            simp only [List.set_cons_succ, List.set_cons_zero, Nat.reduceAdd]
          apply RegT.T_pure (v := .bool false) rfl rfl rfl
          · intro W hR; clear hR; go_simp
          simp only [List.set_cons_succ, List.set_cons_zero, Nat.reduceAdd]
          iterate 1
            apply RegT.T_pure rfl rfl rfl
            · intro W hR; go_simp; rfl
            simp only [List.set_cons_succ, List.set_cons_zero, Nat.reduceAdd]
          iterate 2
            apply RegT.T_skip rfl rfl rfl
            simp only [List.set_cons_succ, List.set_cons_zero, Nat.reduceAdd]
          apply RegT.T_pure (v := .bool false) rfl rfl rfl
          · intro W hR; clear hR; go_simp
          simp only [List.set_cons_succ, List.set_cons_zero, Nat.reduceAdd]
          apply RegT.T_pure (v := .agg #[.int .u64 (a0 : Int), .int .u64 (a1 : Int)]) rfl rfl rfl
          · exact fun W hR => load23 (.tmp 3) rfl rfl (HR.out W hR.block).1
          simp only [List.set_cons_succ, List.set_cons_zero, Nat.reduceAdd]
          apply RegT.T_pure (v := .agg #[.int .u64 (b0 : Int), .int .u64 (b1 : Int)]) rfl rfl rfl
          · exact fun W hR => load23 (.tmp 4) rfl rfl (HR.out W hR.block).2.1
          simp only [List.set_cons_succ, List.set_cons_zero, Nat.reduceAdd]
          apply RegT.T_pure (v := .bool false) rfl rfl rfl
          · exact fun W hR => eq23_ok (.tmp 72) (.tmp 73) rfl rfl rfl (Heq.out W)
          simp only [List.set_cons_succ, List.set_cons_zero, Nat.reduceAdd]
          apply RegT.T_pure (v := .bool true) rfl rfl rfl
          · intro W hR; clear hR; go_simp
          simp only [List.set_cons_succ, List.set_cons_zero, Nat.reduceAdd]
          apply RegT.T_pure (v := .bool true) rfl rfl rfl
          · intro W hR; clear hR; go_simp
          simp only [List.set_cons_succ, List.set_cons_zero, Nat.reduceAdd]
          iterate 1
            apply RegT.T_pure rfl rfl rfl
            · intro W hR; go_simp; rfl
            simp only [List.set_cons_succ, List.set_cons_zero, Nat.reduceAdd]
          iterate 1
            apply RegT.T_pure rfl rfl rfl
            · intro W hR; go_simp; rfl
            simp only [List.set_cons_succ, List.set_cons_zero, Nat.reduceAdd]
          apply RegT.T_pure (v := .bool false) rfl rfl rfl
          · intro W hR; clear hR; go_simp
          simp only [List.set_cons_succ, List.set_cons_zero, Nat.reduceAdd]
          iterate 1
            apply RegT.T_pure rfl rfl rfl
            · intro W hR; go_simp; rfl
            simp only [List.set_cons_succ, List.set_cons_zero, Nat.reduceAdd]
          iterate 1
            apply RegT.T_pure rfl rfl rfl
            · intro W hR; go_simp; rfl
            simp only [List.set_cons_succ, List.set_cons_zero, Nat.reduceAdd]
          apply RegT.T_pure (v := .bool false) rfl rfl rfl
          · intro W hR; clear hR; go_simp
          simp only [List.set_cons_succ, List.set_cons_zero, Nat.reduceAdd]
          apply RegT.T_pure (v := .bool false) rfl rfl rfl
          · intro W hR; clear hR; go_simp
          simp only [List.set_cons_succ, List.set_cons_zero, Nat.reduceAdd]
          iterate 1
            apply RegT.T_pure rfl rfl rfl
            · intro W hR; go_simp; rfl
            simp only [List.set_cons_succ, List.set_cons_zero, Nat.reduceAdd]
          iterate 1
            apply RegT.T_pure rfl rfl rfl
            · intro W hR; go_simp; rfl
            simp only [List.set_cons_succ, List.set_cons_zero, Nat.reduceAdd]
          apply RegT.T_pure (v := .bool true) rfl rfl rfl
          · intro W hR; clear hR; go_simp
          simp only [List.set_cons_succ, List.set_cons_zero, Nat.reduceAdd]
          apply RegT.T_pure (v := .bool true) rfl rfl rfl
          · intro W hR; clear hR; go_simp
          simp only [List.set_cons_succ, List.set_cons_zero, Nat.reduceAdd]
          iterate 1
            apply RegT.T_pure rfl rfl rfl
            · intro W hR; go_simp; rfl
            simp only [List.set_cons_succ, List.set_cons_zero, Nat.reduceAdd]
          apply RegT.T_const rfl rfl rfl (.bool true) (fun _ _ h => h)
          · intro W hR hf
            have Hc := Lib.hid (HKn.out W)
            clear hR hf
            go_simp
            exact RegT.OpOK_enter Hc.out (fun e w' h => ⟨_, h.1, rfl, h.2⟩)
          simp only [List.set_cons_succ, List.set_cons_zero, Nat.reduceAdd]
          apply RegT.T_pure (v := .bool true) rfl rfl rfl
          · intro W hR; clear hR; go_simp
          simp only [List.set_cons_succ, List.set_cons_zero, Nat.reduceAdd]
          iterate 1
            apply RegT.T_pure rfl rfl rfl
            · intro W hR; go_simp; rfl
            simp only [List.set_cons_succ, List.set_cons_zero, Nat.reduceAdd]
          refine RegT.T_tail (fun W3 hR hf => ?_)
          have HB3 := Lib.hid (HB2.out.trans (hR.mono HB2.out.size))
          clear hR hf
          simp only [List.drop_succ_cons, List.drop_zero]
          go_wp2
          go_ret
          exact ⟨rfl, HB3.out⟩
        · rfl
      · rfl
      · kernel_rfl
    · rfl
    · kernel_rfl
end Go.Proofs.Yteellfgiejnigaa
