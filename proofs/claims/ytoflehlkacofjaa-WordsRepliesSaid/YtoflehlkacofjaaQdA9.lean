/- Two lists of a reply, compared. -/
import Derived.Test.YtoflehlkacofjaaQdK4
namespace Go.Proofs.Ytoflehlkacofjaa
open Go.ChangeShapes Go.WideShapes Go.ChangeAt Go.RowKit
set_option linter.unusedVariables false
theorem take_eq_step {α : Type} {xs ys : List α} (q : Nat) (h1 : q < xs.length) (h2 : q < ys.length) (h : xs.take q = ys.take q) (he : xs[q] = ys[q]) : xs.take (q + 1) = ys.take (q + 1) := by
  rw [List.take_succ_eq_append_getElem h1, List.take_succ_eq_append_getElem h2, h, he]
/-- Two trades alike? -/
def Tr.sameB (x y : Tr) : Bool := (x.price == y.price) && ((x.qty == y.qty) && (((x.number : Int) == (y.number : Int)) && (((x.account : Int) == (y.account : Int)) && true)))
theorem Tr.same_iff (x y : Tr) : x.sameB y = true ↔ x = y := by
  obtain ⟨a, b, c, d⟩ := x
  obtain ⟨a', b', c', d'⟩ := y
  simp [Tr.sameB]
  intro _ _; omega
set_option maxRecDepth 100000 in
theorem neq62 (p q : Int) (n a : Nat) (p' q' : Int) (n' a' : Nat) (W : World) : (binOp .neq 62 (.agg #[.int .i64 p, .int .i64 q, .int .u64 (n : Int), .int .u32 (a : Int)]) (.agg #[.int .i64 p', .int .i64 q', .int .u64 (n' : Int), .int .u32 (a' : Int)])).run Try.prog W = .ok (.bool (!((Tr.mk p q n a).sameB (Tr.mk p' q' n' a')))) W := by
  rw [run_neq_struct]
  have h : (Op.equalIn (9999 + 1) 62 (.agg #[.int .i64 p, .int .i64 q, .int .u64 (n : Int), .int .u32 (a : Int)]) (.agg #[.int .i64 p', .int .i64 q', .int .u64 (n' : Int), .int .u32 (a' : Int)])).run Try.prog W = .ok ((Tr.mk p q n a).sameB (Tr.mk p' q' n' a')) W := by
    rw [run_equalIn_struct W 9999 62 _ _ (by kernel_rfl) (by kernel_rfl)]
    refine eqF_int (d := 9998) (by decide) Try.underlying2 rfl rfl ?_
    refine eqF_int (d := 9998) (by decide) Try.underlying2 rfl rfl ?_
    refine eqF_int (d := 9998) (by decide) Try.underlying24 rfl rfl ?_
    refine eqF_int (d := 9998) (by decide) Try.underlying23 rfl rfl ?_
    rfl
  rw [h]; rfl
set_option maxRecDepth 100000 in
set_option maxHeartbeats 1600000 in
theorem equal38_w (v1 v2 : Value) (xs ys : List Nat) (w : World) (h1 : RdN w v1 .u64 xs) (h2 : RdN w v2 .u64 ys) (hl1 : xs.length ≤ 140737488355328) (hl2 : ys.length ≤ 140737488355328) :
    Calls Try.prog 38 #[v1, v2] w fun e w' => e = .returned (.bool (decide (xs = ys))) ∧ Below w.heap.size w w' := by
  have H1 := Lib.hid h1
  have H2 := Lib.hid h2
  obtain ⟨p1, c1, rfl, _⟩ := h1
  obtain ⟨p2, c2, rfl, _⟩ := h2
  by_cases hlen : xs.length = ys.length
  · have hd : ((xs.length : Int) != (ys.length : Int)) = false := by simp; omega
    have HB0 := Lib.hid (Below.refl w.heap.size w)
    have Hlen := Lib.hid hlen
    obtain ⟨n, hn1⟩ : ∃ n, xs.length = n := ⟨_, rfl⟩
    have hn2 : ys.length = n := by omega
    have Hn1 := Lib.hid hn1
    have Hn2 := Lib.hid hn2
    rw [hn1] at hd hl1 H1
    rw [hn2] at hd hl2 H2
    rw [hn1, hn2]
    clear hlen hn1 hn2
    go_enter Try.func38, Try.ntmps38
    go_wp2
    go_loopw [13] (fun ix wr => ∃ q : Nat, q ≤ n ∧ ix = .int .i64 (q : Int) ∧ Hid (xs.take q = ys.take q) ∧ Hid (Below w.heap.size w wr)) (fun ix _ => n - (intOf ix).toNat)
    case atStart => exact ⟨0, Nat.zero_le _, rfl, Lib.hid (by simp), HB0⟩
    case round =>
      obtain ⟨q, hq, rfl, HT, HBq⟩ := hrel
      by_cases hlt : q < n
      · have hq1 : q < xs.length := by have := Hn1.out; omega
        have hq2 : q < ys.length := by have := Hn2.out; omega
        obtain ⟨b1, o1, rfl, hc1⟩ := H1.out.at q hq1
        obtain ⟨b2, o2, rfl, hc2⟩ := H2.out.at q hq2
        have y1 : wr.cell? ⟨b1, o1 + q, none⟩ = some (.int .u64 (xs[q] : Int)) := (HBq.out.cell (block_lt_of_cell hc1)).trans hc1
        have y2 : wr.cell? ⟨b2, o2 + q, none⟩ = some (.int .u64 (ys[q] : Int)) := (HBq.out.cell (block_lt_of_cell hc2)).trans hc2
        by_cases he : xs[q] = ys[q]
        · have Hst := Lib.hid (take_eq_step q hq1 hq2 HT.out he)
          have hdd : ((xs[q] : Int) != (ys[q] : Int)) = false := by simp; omega
          clear he hc1 hc2
          generalize xs[q] = x at *
          generalize ys[q] = y at *
          clear hq1 hq2
          go_wp2
          go_region
          all_goals
            go_wp2
            go_roundw
            case rel => exact ⟨q + 1, by omega, by go_num, Hst, Lib.hid HBq.out.drew⟩
            case measure => simp [intOf]; omega
        · have Hno := Lib.hid (show decide (xs = ys) = false from decide_eq_false fun e => he (by subst e; rfl))
          have hdd : ((xs[q] : Int) != (ys[q] : Int)) = true := by simp; omega
          clear he hc1 hc2
          generalize xs[q] = x at *
          generalize ys[q] = y at *
          clear hq1 hq2
          go_wp2
          go_region
          all_goals
            go_wp2
            go_ret
            exact ⟨by rw [Hno.out]; rfl, HBq.out.drew⟩
      · have hq2 : q = n := by omega
        have Hyes := Lib.hid (show decide (xs = ys) = true from by
          have h := HT.out
          rw [hq2, List.take_of_length_le (by have := Hn1.out; omega), List.take_of_length_le (by have := Hn2.out; omega)] at h
          exact decide_eq_true h)
        go_wp2
        go_ret
        exact ⟨by rw [Hyes.out]; rfl, HBq.out⟩
  · have hd : ((xs.length : Int) != (ys.length : Int)) = true := by simp; omega
    have Hno := Lib.hid (show decide (xs = ys) = false from decide_eq_false fun e => hlen (by rw [e]))
    have HB0 := Lib.hid (Below.refl w.heap.size w)
    clear hlen
    go_enter Try.func38, Try.ntmps38
    go_wp2
    go_ret
    exact ⟨by rw [Hno.out]; rfl, HB0.out⟩
set_option maxRecDepth 100000 in
set_option maxHeartbeats 1600000 in
theorem equal39_w (v1 v2 : Value) (xs ys : List Nat) (w : World) (h1 : RdN w v1 .u32 xs) (h2 : RdN w v2 .u32 ys) (hl1 : xs.length ≤ 140737488355328) (hl2 : ys.length ≤ 140737488355328) :
    Calls Try.prog 39 #[v1, v2] w fun e w' => e = .returned (.bool (decide (xs = ys))) ∧ Below w.heap.size w w' := by
  have H1 := Lib.hid h1
  have H2 := Lib.hid h2
  obtain ⟨p1, c1, rfl, _⟩ := h1
  obtain ⟨p2, c2, rfl, _⟩ := h2
  by_cases hlen : xs.length = ys.length
  · have hd : ((xs.length : Int) != (ys.length : Int)) = false := by simp; omega
    have HB0 := Lib.hid (Below.refl w.heap.size w)
    have Hlen := Lib.hid hlen
    obtain ⟨n, hn1⟩ : ∃ n, xs.length = n := ⟨_, rfl⟩
    have hn2 : ys.length = n := by omega
    have Hn1 := Lib.hid hn1
    have Hn2 := Lib.hid hn2
    rw [hn1] at hd hl1 H1
    rw [hn2] at hd hl2 H2
    rw [hn1, hn2]
    clear hlen hn1 hn2
    go_enter Try.func39, Try.ntmps39
    go_wp2
    go_loopw [13] (fun ix wr => ∃ q : Nat, q ≤ n ∧ ix = .int .i64 (q : Int) ∧ Hid (xs.take q = ys.take q) ∧ Hid (Below w.heap.size w wr)) (fun ix _ => n - (intOf ix).toNat)
    case atStart => exact ⟨0, Nat.zero_le _, rfl, Lib.hid (by simp), HB0⟩
    case round =>
      obtain ⟨q, hq, rfl, HT, HBq⟩ := hrel
      by_cases hlt : q < n
      · have hq1 : q < xs.length := by have := Hn1.out; omega
        have hq2 : q < ys.length := by have := Hn2.out; omega
        obtain ⟨b1, o1, rfl, hc1⟩ := H1.out.at q hq1
        obtain ⟨b2, o2, rfl, hc2⟩ := H2.out.at q hq2
        have y1 : wr.cell? ⟨b1, o1 + q, none⟩ = some (.int .u32 (xs[q] : Int)) := (HBq.out.cell (block_lt_of_cell hc1)).trans hc1
        have y2 : wr.cell? ⟨b2, o2 + q, none⟩ = some (.int .u32 (ys[q] : Int)) := (HBq.out.cell (block_lt_of_cell hc2)).trans hc2
        by_cases he : xs[q] = ys[q]
        · have Hst := Lib.hid (take_eq_step q hq1 hq2 HT.out he)
          have hdd : ((xs[q] : Int) != (ys[q] : Int)) = false := by simp; omega
          clear he hc1 hc2
          generalize xs[q] = x at *
          generalize ys[q] = y at *
          clear hq1 hq2
          go_wp2
          go_region
          all_goals
            go_wp2
            go_roundw
            case rel => exact ⟨q + 1, by omega, by go_num, Hst, Lib.hid HBq.out.drew⟩
            case measure => simp [intOf]; omega
        · have Hno := Lib.hid (show decide (xs = ys) = false from decide_eq_false fun e => he (by subst e; rfl))
          have hdd : ((xs[q] : Int) != (ys[q] : Int)) = true := by simp; omega
          clear he hc1 hc2
          generalize xs[q] = x at *
          generalize ys[q] = y at *
          clear hq1 hq2
          go_wp2
          go_region
          all_goals
            go_wp2
            go_ret
            exact ⟨by rw [Hno.out]; rfl, HBq.out.drew⟩
      · have hq2 : q = n := by omega
        have Hyes := Lib.hid (show decide (xs = ys) = true from by
          have h := HT.out
          rw [hq2, List.take_of_length_le (by have := Hn1.out; omega), List.take_of_length_le (by have := Hn2.out; omega)] at h
          exact decide_eq_true h)
        go_wp2
        go_ret
        exact ⟨by rw [Hyes.out]; rfl, HBq.out⟩
  · have hd : ((xs.length : Int) != (ys.length : Int)) = true := by simp; omega
    have Hno := Lib.hid (show decide (xs = ys) = false from decide_eq_false fun e => hlen (by rw [e]))
    have HB0 := Lib.hid (Below.refl w.heap.size w)
    clear hlen
    go_enter Try.func39, Try.ntmps39
    go_wp2
    go_ret
    exact ⟨by rw [Hno.out]; rfl, HB0.out⟩
theorem exec_load62 {o : Oper} {e : Operand → Value} {W : World} {b off : Nat} {p q : Int} {n a : Nat} (x : Operand) (ho : o.op = .load 62 x) (hx : e x = .pointer (some ⟨b, off, none⟩)) (h : W.rangeAt b off [.int .i64 p, .int .i64 q, .int .u64 (n : Int), .int .u32 (a : Int)]) :
    (execOp e o).run Try.prog W = .ok (.value (.agg #[.int .i64 p, .int .i64 q, .int .u64 (n : Int), .int .u32 (a : Int)])) W := by
  have hl := run_loadVar_mid (P := Try.prog) W b off 62 _ _ h Try.underlying62 rfl (show _ = some 4 by kernel_rfl)
  unfold execOp
  simp only [ho, hx, Instr.loadAt, Instr.sureAddr, Sem.run_bind, Sem.run_pure, Result.andThen_ok, hl]
theorem guard62 (op : BinOp) (x y : Operand) (xs ys : Array Value) (W : World) : (eqGuard op 62 x y (.agg xs) (.agg ys)).run Try.prog W = .ok () W :=
  run_eqGuard_agg W op 62 x y xs ys (by kernel_rfl)
theorem exec_neq62 {o : Oper} {e : Operand → Value} {W : World} {cx cy : Array Value} {b : Bool} (x y : Operand) (ho : o.op = .binOp .neq 62 x y 62) (hx : e x = .agg cx) (hy : e y = .agg cy) (h : (binOp .neq 62 (.agg cx) (.agg cy)).run Try.prog W = .ok (.bool b) W) :
    (execOp e o).run Try.prog W = .ok (.value (.bool b)) W := by
  unfold execOp
  simp only [ho, hx, hy]
  simp [guard62, h]
set_option maxRecDepth 100000 in
set_option maxHeartbeats 1600000 in
theorem equal37_w (v1 v2 : Value) (xs ys : List Tr) (w : World) (h1 : RdT w v1 xs) (h2 : RdT w v2 ys) (hl1 : xs.length ≤ 140737488355328) (hl2 : ys.length ≤ 140737488355328) :
    Calls Try.prog 37 #[v1, v2] w fun e w' => (∃ r, e = .returned (.bool r) ∧ (r = true ↔ xs = ys)) ∧ Below w.heap.size w w' := by
  have H1 := Lib.hid h1
  have H2 := Lib.hid h2
  obtain ⟨p1, c1, rfl, _⟩ := h1
  obtain ⟨p2, c2, rfl, _⟩ := h2
  by_cases hlen : xs.length = ys.length
  · have hd : ((xs.length : Int) != (ys.length : Int)) = false := by simp; omega
    have HB0 := Lib.hid (Below.refl w.heap.size w)
    have Hlen := Lib.hid hlen
    obtain ⟨n, hn1⟩ : ∃ n, xs.length = n := ⟨_, rfl⟩
    have hn2 : ys.length = n := by omega
    have Hn1 := Lib.hid hn1
    have Hn2 := Lib.hid hn2
    rw [hn1] at hd hl1 H1
    rw [hn2] at hd hl2 H2
    rw [hn1, hn2]
    clear hlen hn1 hn2
    go_enter Try.func37, Try.ntmps37
    go_wp2
    go_loopw [13] (fun ix wr => ∃ q : Nat, q ≤ n ∧ ix = .int .i64 (q : Int) ∧ Hid (xs.take q = ys.take q) ∧ Hid (Below w.heap.size w wr)) (fun ix _ => n - (intOf ix).toNat)
    case atStart => exact ⟨0, Nat.zero_le _, rfl, Lib.hid (by simp), HB0⟩
    case round =>
      obtain ⟨q, hq, rfl, HT, HBq⟩ := hrel
      by_cases hlt : q < n
      · have hq1 : q < xs.length := by have := Hn1.out; omega
        have hq2 : q < ys.length := by have := Hn2.out; omega
        obtain ⟨b1, o1, rfl, hc1⟩ := H1.out.at q hq1
        obtain ⟨b2, o2, rfl, hc2⟩ := H2.out.at q hq2
        have y1 : ∀ W, RegT.Grow wr.drew W → W.rangeAt b1 (o1 + q * 4) xs[q].cells := fun W hR j u hu => ((HBq.out.trans (((Below.refl _ _).drew.trans hR).mono HBq.out.size)).cell (p := ⟨b1, o1 + q * 4 + j, none⟩) (block_lt_of_cell (hc1 j u hu))).trans (hc1 j u hu)
        have y2 : ∀ W, RegT.Grow wr.drew W → W.rangeAt b2 (o2 + q * 4) ys[q].cells := fun W hR j u hu => ((HBq.out.trans (((Below.refl _ _).drew.trans hR).mono HBq.out.size)).cell (p := ⟨b2, o2 + q * 4 + j, none⟩) (block_lt_of_cell (hc2 j u hu))).trans (hc2 j u hu)
        cases hse : xs[q].sameB ys[q] with
        | true =>
          have he : xs[q] = ys[q] := (Tr.same_iff _ _).1 hse
          have Hst := Lib.hid (take_eq_step q hq1 hq2 HT.out he)
          clear he hc1 hc2
          unfold Tr.cells at y1 y2
          generalize xs[q] = x at *
          generalize ys[q] = y at *
          obtain ⟨p, q', nu, ac⟩ := x
          obtain ⟨p2', q2', nu2, ac2⟩ := y
          dsimp only at y1 y2
          have Y1 := Lib.hid y1
          have Y2 := Lib.hid y2
          clear hq1 hq2 y1 y2
          have HNe := Lib.hid (fun W => (show (binOp .neq 62 (.agg #[.int .i64 p, .int .i64 q', .int .u64 (nu : Int), .int .u32 (ac : Int)]) (.agg #[.int .i64 p2', .int .i64 q2', .int .u64 (nu2 : Int), .int .u32 (ac2 : Int)])).run Try.prog W = .ok (.bool false) W by rw [neq62, hse]; rfl))
          go_wp2
          apply RegT.wp_region_T rfl 26 9 rfl (by kernel_rfl) RegT.Grow RegT.Grow.refl RegT.Grow.trans
          · apply RegT.T_pure rfl rfl rfl
            · intro W hR; clear hR; go_simp; rfl
            simp only [List.set_cons_succ, List.set_cons_zero, Nat.reduceAdd]
            apply RegT.T_pure rfl rfl rfl
            · intro W hR; clear hR; go_simp; rfl
            simp only [List.set_cons_succ, List.set_cons_zero, Nat.reduceAdd]
            apply RegT.T_pure rfl rfl rfl
            · intro W hR; clear hR; go_simp; rfl
            simp only [List.set_cons_succ, List.set_cons_zero, Nat.reduceAdd]
            apply RegT.T_pure rfl rfl rfl
            · exact fun W hR => exec_load62 (.tmp 18) rfl rfl (Y1.out W hR)
            simp only [List.set_cons_succ, List.set_cons_zero, Nat.reduceAdd]
            apply RegT.T_pure rfl rfl rfl
            · intro W hR; clear hR; go_simp; rfl
            simp only [List.set_cons_succ, List.set_cons_zero, Nat.reduceAdd]
            apply RegT.T_pure rfl rfl rfl
            · intro W hR; clear hR; go_simp; rfl
            simp only [List.set_cons_succ, List.set_cons_zero, Nat.reduceAdd]
            apply RegT.T_pure rfl rfl rfl
            · intro W hR; clear hR; go_simp; rfl
            simp only [List.set_cons_succ, List.set_cons_zero, Nat.reduceAdd]
            apply RegT.T_pure rfl rfl rfl
            · exact fun W hR => exec_load62 (.tmp 22) rfl rfl (Y2.out W hR)
            simp only [List.set_cons_succ, List.set_cons_zero, Nat.reduceAdd]
            apply RegT.T_pure (v := .bool false) rfl rfl rfl
            · intro W hR; clear hR; (exact exec_neq62 (.tmp 19) (.tmp 23) rfl rfl rfl (HNe.out W))
            simp only [List.set_cons_succ, List.set_cons_zero, Nat.reduceAdd]
            refine RegT.T_end rfl (fun W5 hR hf => ?_)
            have HB5 := Lib.hid (HBq.out.trans (((Below.refl _ _).drew.trans hR).mono HBq.out.size))
            clear hR hf Y1 Y2
            go_wp2
            go_roundw
            case rel => exact ⟨q + 1, by omega, by go_num, Hst, HB5⟩
            case measure => simp [intOf]; omega
          · rfl
          · kernel_rfl
        | false =>
          have Hno := Lib.hid (show ¬ xs = ys from fun e => by
            subst e
            rw [(Tr.same_iff _ _).2 rfl] at hse
            cases hse)
          clear hc1 hc2
          unfold Tr.cells at y1 y2
          generalize xs[q] = x at *
          generalize ys[q] = y at *
          obtain ⟨p, q', nu, ac⟩ := x
          obtain ⟨p2', q2', nu2, ac2⟩ := y
          dsimp only at y1 y2
          have Y1 := Lib.hid y1
          have Y2 := Lib.hid y2
          clear hq1 hq2 y1 y2
          have HNe := Lib.hid (fun W => (show (binOp .neq 62 (.agg #[.int .i64 p, .int .i64 q', .int .u64 (nu : Int), .int .u32 (ac : Int)]) (.agg #[.int .i64 p2', .int .i64 q2', .int .u64 (nu2 : Int), .int .u32 (ac2 : Int)])).run Try.prog W = .ok (.bool true) W by rw [neq62, hse]; rfl))
          go_wp2
          apply RegT.wp_region_T rfl 26 9 rfl (by kernel_rfl) RegT.Grow RegT.Grow.refl RegT.Grow.trans
          · apply RegT.T_pure rfl rfl rfl
            · intro W hR; clear hR; go_simp; rfl
            simp only [List.set_cons_succ, List.set_cons_zero, Nat.reduceAdd]
            apply RegT.T_pure rfl rfl rfl
            · intro W hR; clear hR; go_simp; rfl
            simp only [List.set_cons_succ, List.set_cons_zero, Nat.reduceAdd]
            apply RegT.T_pure rfl rfl rfl
            · intro W hR; clear hR; go_simp; rfl
            simp only [List.set_cons_succ, List.set_cons_zero, Nat.reduceAdd]
            apply RegT.T_pure rfl rfl rfl
            · exact fun W hR => exec_load62 (.tmp 18) rfl rfl (Y1.out W hR)
            simp only [List.set_cons_succ, List.set_cons_zero, Nat.reduceAdd]
            apply RegT.T_pure rfl rfl rfl
            · intro W hR; clear hR; go_simp; rfl
            simp only [List.set_cons_succ, List.set_cons_zero, Nat.reduceAdd]
            apply RegT.T_pure rfl rfl rfl
            · intro W hR; clear hR; go_simp; rfl
            simp only [List.set_cons_succ, List.set_cons_zero, Nat.reduceAdd]
            apply RegT.T_pure rfl rfl rfl
            · intro W hR; clear hR; go_simp; rfl
            simp only [List.set_cons_succ, List.set_cons_zero, Nat.reduceAdd]
            apply RegT.T_pure rfl rfl rfl
            · exact fun W hR => exec_load62 (.tmp 22) rfl rfl (Y2.out W hR)
            simp only [List.set_cons_succ, List.set_cons_zero, Nat.reduceAdd]
            apply RegT.T_pure (v := .bool true) rfl rfl rfl
            · intro W hR; clear hR; (exact exec_neq62 (.tmp 19) (.tmp 23) rfl rfl rfl (HNe.out W))
            simp only [List.set_cons_succ, List.set_cons_zero, Nat.reduceAdd]
            refine RegT.T_end rfl (fun W5 hR hf => ?_)
            have HB5 := Lib.hid (HBq.out.trans (((Below.refl _ _).drew.trans hR).mono HBq.out.size))
            clear hR hf Y1 Y2
            go_wp2
            go_ret
            exact ⟨⟨false, rfl, (fun e => by cases e), fun e => absurd e Hno.out⟩, HB5.out⟩
          · rfl
          · kernel_rfl
      · have hq2 : q = n := by omega
        have Hyes := Lib.hid (show xs = ys from by
          have h := HT.out
          rw [hq2, List.take_of_length_le (by have := Hn1.out; omega), List.take_of_length_le (by have := Hn2.out; omega)] at h
          exact h)
        go_wp2
        go_ret
        exact ⟨⟨true, rfl, fun _ => Hyes.out, fun _ => rfl⟩, HBq.out⟩
  · have hd : ((xs.length : Int) != (ys.length : Int)) = true := by simp; omega
    have Hno := Lib.hid (show ¬ xs = ys from fun e => hlen (by rw [e]))
    have HB0 := Lib.hid (Below.refl w.heap.size w)
    clear hlen
    go_enter Try.func37, Try.ntmps37
    go_wp2
    go_ret
    exact ⟨⟨false, rfl, (fun e => by cases e), fun e => absurd e Hno.out⟩, HB0.out⟩
end Go.Proofs.Ytoflehlkacofjaa
