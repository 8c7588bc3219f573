/- Whether a command may be: the document's MayCommand. -/
import Derived.Test.YtoflehlkacofjaaQfB1
namespace Go.Proofs.Ytoflehlkacofjaa
open Go.ChangeShapes Go.WideShapes Go.ChangeAt Go.RowKit
set_option linter.unusedVariables false
namespace RegT
/-- A walk that only reads and grows, whatever the kinds of its steps were. -/
def TQ (P : Program) (ops : Array Oper) (R : World → World → Prop) (w0 : World) (Q : Exit → Act → World → Prop) (i : Nat) (a : Act) : Prop := ∃ L, T P ops R w0 Q L i a [] ∧ L.length + i = ops.size ∧ L.all quietK = true
section
variable {P : Program} {ops : Array Oper} {R : World → World → Prop} {w0 : World} {Q : Exit → Act → World → Prop} {i : Nat} {o : Oper} {l : List Value} {df : List Deferred} {d : Tmp}
theorem Q_end (hi : i = ops.size) (h : ∀ w, R w0 w → Q .normal ⟨l.toArray, df⟩ w) : TQ P ops R w0 Q i ⟨l.toArray, df⟩ := ⟨[], T_end hi (fun w h1 _ => h w h1), by simp [hi], rfl⟩
theorem Q_pure (ho : ops[i]? = some o) (hd : o.dst = some d) (hw : Region.wanted o (yielded ops l.toArray) = true) {v : Value} (hr : ∀ w, R w0 w → (execOp (Act.eval ⟨l.toArray, df⟩) o).run P w = .ok (.value v) w)
    (h : TQ P ops R w0 Q (i + 1) ⟨(l.set d v).toArray, df⟩) : TQ P ops R w0 Q i ⟨l.toArray, df⟩ :=
  let ⟨L, h1, h2, h3⟩ := h
  ⟨pureK :: L, T_pure ho hd hw hr h1, by rw [List.length_cons]; omega, by simpa [quietK] using h3⟩
theorem Q_skip (ho : ops[i]? = some o) (hd : o.dst = some d) (hw : Region.wanted o (yielded ops l.toArray) = false) (h : TQ P ops R w0 Q (i + 1) ⟨(l.set d undef).toArray, df⟩) : TQ P ops R w0 Q i ⟨l.toArray, df⟩ :=
  let ⟨L, h1, h2, h3⟩ := h
  ⟨pureK :: L, T_skip ho hd hw h1, by rw [List.length_cons]; omega, by simpa [quietK] using h3⟩
theorem Q_const (ho : ops[i]? = some o) (hd : o.dst = some d) (hw : Region.wanted o (yielded ops l.toArray) = true) (c : Value) (hRG : ∀ x y, Grow x y → R x y) (hr : ∀ w, R w0 w → OpOK P ((execOp (Act.eval ⟨l.toArray, df⟩) o).run P w) fun v w' => v = c ∧ Grow w w')
    (h : TQ P ops R w0 Q (i + 1) ⟨(l.set d c).toArray, df⟩) : TQ P ops R w0 Q i ⟨l.toArray, df⟩ :=
  let ⟨L, h1, h2, h3⟩ := h
  ⟨constK c :: L, T_const ho hd hw c hRG (fun w h _ => hr w h) h1, by rw [List.length_cons]; omega, by simpa [quietK] using h3⟩
/-- All ways meet again. -/
theorem Q_cut (j : Nat) (Φ : List Value → Prop) (h1 : (∀ l', Φ l' → TQ P ops R w0 Q j ⟨l'.toArray, df⟩) → TQ P ops R w0 Q i ⟨l.toArray, df⟩) (h2 : ∀ l', Φ l' → TQ P ops R w0 Q j ⟨l'.toArray, df⟩) : TQ P ops R w0 Q i ⟨l.toArray, df⟩ := h1 h2
theorem wp_region_Q {id : Nat} {a : Act} {w : World} (R : World → World → Prop) (hrefl : ∀ x, R x x) (htrans : ∀ x y z, R x y → R y z → R x z)
    (h : TQ P ops R w Q 0 a) : (Code.region id ops false).wp P Q a w :=
  let ⟨L, h1, h2, h3⟩ := h
  wp_region_F R hrefl htrans h1 h3
end
end RegT
theorem guard27 (op : BinOp) (x y : Operand) (xs ys : Array Value) (W : World) : (eqGuard op 27 x y (.agg xs) (.agg ys)).run Try.prog W = .ok () W :=
  run_eqGuard_agg W op 27 x y xs ys (by kernel_rfl)
set_option maxRecDepth 100000 in
theorem equal27b (s t : Sp) (W : World) : (Op.equalIn (9998 + 2) 27 (.agg s.cells) (.agg t.cells)).run Try.prog W = .ok (s.sameB t) W := by
  rw [run_equalIn_struct W 9999 27 _ _ (by kernel_rfl) (by kernel_rfl)]
  refine eqF_int (d := 9998) (by decide) Try.underlying23 rfl rfl ?_
  refine eqF_int (d := 9998) (by decide) Try.underlying5 rfl rfl ?_
  refine eqF_int (d := 9998) (by decide) Try.underlying2 rfl rfl ?_
  refine eqF_int (d := 9998) (by decide) Try.underlying2 rfl rfl ?_
  refine eqF_int (d := 9998) (by decide) Try.underlying2 rfl rfl ?_
  refine eqF_int (d := 9998) (by decide) Try.underlying2 rfl rfl ?_
  refine eqF_cons (by decide) (part25 s W) (part25 t W) (equal25 s t 9997 W) ?_
  refine eqF_int (d := 9998) (by decide) Try.underlying2 rfl rfl ?_
  refine eqF_int (d := 9998) (by decide) Try.underlying23 rfl rfl ?_
  refine eqF_int (d := 9998) (by decide) Try.underlying2 rfl rfl ?_
  rfl
theorem neq27 (s t : Sp) (W : World) : (binOp .neq 27 (.agg s.cells) (.agg t.cells)).run Try.prog W = .ok (.bool (!s.sameB t)) W := by
  rw [run_neq_struct, equal27b]; rfl
theorem wpList_load_sp6 {ops : Array Oper} {rest : List Oper} {o : Oper} {a : Act} {w : World} {Q : Exit → Act → World → Prop} {B : Nat} {x : Cm} (hw : Region.wanted o (yielded ops a.tmps) = true) (y : Operand) (ho : o.op = .load 27 y)
    (hx : a.eval y = .pointer (some ⟨B, 5, none⟩)) (h : CcAt w B x.cells) (k : wpList Try.prog ops Q rest (a.put o.dst (.agg x.spec.cells)) w) : wpList Try.prog ops Q (o :: rest) a w := by
  unfold wpList
  rw [if_pos hw]
  refine .inl ?_
  unfold Oper.wp
  rw [load_spec y ho hx h]
  exact k
theorem exec_neq27 {o : Oper} {e : Operand → Value} {W : World} {s t : Sp} {b : Bool} (x y : Operand) (ho : o.op = .binOp .neq 27 x y 27) (hx : e x = .agg s.cells) (hy : e y = .agg t.cells) (h : (!s.sameB t) = b) :
    (execOp e o).run Try.prog W = .ok (.value (.bool b)) W := by
  subst h
  unfold execOp
  simp only [ho, hx, hy]
  simp [guard27, neq27]
set_option maxRecDepth 100000 in
set_option maxHeartbeats 12800000 in
theorem bad20_w (k a n u : Nat) (m : Int) (s : Sp) (o b : Bool) (z : Nat) (p q : Int) (w : World) (cx : Array Value) (hcx : cx = cmc k a n u m s o b z p q) (f : List UInt8) (fs : ByteArray) (ha hc hn hm hs ho hb hk hp hq : Bool) (e1 : 1 ≤ k) (e2 : k ≤ 14)
    (HF : ∀ W, Calls Try.prog 55 #[.int .u8 (k : Int)] W fun e w' => e = .returned (.string fs) ∧ W = w')
    (Hha : ∀ W, Calls Try.prog 56 #[.string fs, .int .u8 97] W fun e w' => e = .returned (.bool ha) ∧ Below W.heap.size W w')
    (Hhc : ∀ W, Calls Try.prog 56 #[.string fs, .int .u8 99] W fun e w' => e = .returned (.bool hc) ∧ Below W.heap.size W w')
    (Hhn : ∀ W, Calls Try.prog 56 #[.string fs, .int .u8 110] W fun e w' => e = .returned (.bool hn) ∧ Below W.heap.size W w')
    (Hhm : ∀ W, Calls Try.prog 56 #[.string fs, .int .u8 109] W fun e w' => e = .returned (.bool hm) ∧ Below W.heap.size W w')
    (Hhs : ∀ W, Calls Try.prog 56 #[.string fs, .int .u8 115] W fun e w' => e = .returned (.bool hs) ∧ Below W.heap.size W w')
    (Hho : ∀ W, Calls Try.prog 56 #[.string fs, .int .u8 111] W fun e w' => e = .returned (.bool ho) ∧ Below W.heap.size W w')
    (Hhb : ∀ W, Calls Try.prog 56 #[.string fs, .int .u8 98] W fun e w' => e = .returned (.bool hb) ∧ Below W.heap.size W w')
    (Hhk : ∀ W, Calls Try.prog 56 #[.string fs, .int .u8 107] W fun e w' => e = .returned (.bool hk) ∧ Below W.heap.size W w')
    (Hhp : ∀ W, Calls Try.prog 56 #[.string fs, .int .u8 112] W fun e w' => e = .returned (.bool hp) ∧ Below W.heap.size W w')
    (Hhq : ∀ W, Calls Try.prog 56 #[.string fs, .int .u8 113] W fun e w' => e = .returned (.bool hq) ∧ Below W.heap.size W w')
    (HM : ∀ W, Calls Try.prog 57 #[.agg s.cells] W fun e w' => e = .returned (.bool s.mayB) ∧ Below W.heap.size W w') (res : Bool) (hres : res = (!(((((((((((!ha && ((a : Int) != 0)) || (!hc && ((n : Int) != 0))) || (!hn && ((u : Int) != 0))) || (!hm && (m != 0))) || (!hs && (!s.sameB Sp.zero))) || (!ho && o)) || (!hb && b)) || (!hk && ((z : Int) != 0))) || (!hp && (p != 0))) || (!hq && (q != 0)))) && (!hs || s.mayB))) :
    Calls Try.prog 20 #[.agg cx] w fun e w' => e = .returned (.bool res) ∧ Below w.heap.size w w' := by
  have HB0 := Lib.hid ((Below.refl w.heap.size w).alloc (Nat.le_refl _) (.cells cx 30))
  have hsz : cx.size = 35 := by rw [hcx]; rfl
  have HX := Lib.hid (CcAt.new w cx)
  have HFh := Lib.hid HF
  have Gha := Lib.hid Hha
  have Ghc := Lib.hid Hhc
  have Ghn := Lib.hid Hhn
  have Ghm := Lib.hid Hhm
  have Ghs := Lib.hid Hhs
  have Gho := Lib.hid Hho
  have Ghb := Lib.hid Hhb
  have Ghk := Lib.hid Hhk
  have Ghp := Lib.hid Hhp
  have Ghq := Lib.hid Hhq
  have GM := Lib.hid HM
  have X0 := Lib.hid (show cx[0]? = some (.int .u8 (k : Int)) by rw [hcx]; rfl)
  have Xha := Lib.hid (show cx[1]? = some (.int .u32 (a : Int)) by rw [hcx]; rfl)
  have Xhc := Lib.hid (show cx[2]? = some (.int .u32 (n : Int)) by rw [hcx]; rfl)
  have Xhn := Lib.hid (show cx[3]? = some (.int .u64 (u : Int)) by rw [hcx]; rfl)
  have Xhm := Lib.hid (show cx[4]? = some (.int .i64 m) by rw [hcx]; rfl)
  have Xho := Lib.hid (show cx[30]? = some (.bool o) by rw [hcx]; rfl)
  have Xhb := Lib.hid (show cx[31]? = some (.bool b) by rw [hcx]; rfl)
  have Xhk := Lib.hid (show cx[32]? = some (.int .u8 (z : Int)) by rw [hcx]; rfl)
  have Xhp := Lib.hid (show cx[33]? = some (.int .i64 p) by rw [hcx]; rfl)
  have Xhq := Lib.hid (show cx[34]? = some (.int .i64 q) by rw [hcx]; rfl)
  have XS := Lib.hid (show ∀ W B, CcAt W B cx → CcAt W B (Cm.cells ⟨k, a, n, u, m, s, o, b, z, p, q⟩) by rw [hcx]; exact fun W B h => h)
  have f1 : ((k : Int) < 1) = False := by simp; omega
  have f2 : ((14 : Int) < (k : Int)) = False := by simp; omega
  have x0 := (HX.out.at 0).trans X0.out
  clear hcx HF HM Hha Hhc Hhn Hhm Hhs Hho Hhb Hhk Hhp Hhq
  go_enter Try.func20, Try.ntmps20
  go_upto_region 4 with (first
    | (go_at_call 55; (with_reducible refine (HFh.out _).mono ?_); rintro r w2 ⟨rfl, rfl⟩))
  apply RegT.wp_region_Q RegT.Grow RegT.Grow.refl RegT.Grow.trans
  refine RegT.Q_cut 0 (fun l => ∃ v0 v4 v5 v6 v7 v8 v9 v10 v11 v12 v13 v14, l = [v0, .pointer (some ⟨w.heap.size, 0, none⟩), .bool false, .string fs, v4, v5, v6, v7, v8, v9, v10, v11, v12, v13, v14, undef, undef, undef, undef, undef, undef, undef, undef, undef, undef, undef, undef, undef, undef, undef, undef, undef, undef, undef, undef, undef, undef, undef, undef, undef, undef, undef, undef, undef, undef, undef, undef, undef, undef, undef, undef, undef, undef, undef, undef, undef, undef, undef, undef, undef, undef, undef, undef, undef, undef, undef, undef, undef, undef, undef, undef, undef, undef, undef, undef, undef, undef, undef, undef, undef, undef, undef, undef, undef, undef, undef, undef, undef, undef, undef, undef, undef, undef, undef, undef, undef, undef, undef, undef, undef, undef, undef, undef, undef, undef, undef, undef, undef, undef, undef, undef, undef, undef, undef, undef, undef, undef, undef, undef, undef]) (fun K => K _ ⟨_, _, _, _, _, _, _, _, _, _, _, _, rfl⟩) ?_
  rintro _ ⟨v0, v4, v5, v6, v7, v8, v9, v10, v11, v12, v13, v14, rfl⟩
  have HXW := Lib.hid (fun (W : World) (hR : RegT.Grow (w.alloc (.cells cx 30)) W) => HX.out.keeps hR.block)
  clear x0 f1 f2
  refine RegT.Q_cut 8 (fun l => ∃ r, r = (!ha && ((a : Int) != 0)) ∧ ∃ v15 v16 v17 v18 v19 v20 v21, l = [v0, .pointer (some ⟨w.heap.size, 0, none⟩), .bool false, .string fs, v4, v5, v6, v7, v8, v9, v10, v11, v12, v13, v14, v15, v16, v17, v18, v19, v20, v21, .bool r, undef, undef, undef, undef, undef, undef, undef, undef, undef, undef, undef, undef, undef, undef, undef, undef, undef, undef, undef, undef, undef, undef, undef, undef, undef, undef, undef, undef, undef, undef, undef, undef, undef, undef, undef, undef, undef, undef, undef, undef, undef, undef, undef, undef, undef, undef, undef, undef, undef, undef, undef, undef, undef, undef, undef, undef, undef, undef, undef, undef, undef, undef, undef, undef, undef, undef, undef, undef, undef, undef, undef, undef, undef, undef, undef, undef, undef, undef, undef, undef, undef, undef, undef, undef, undef, undef, undef, undef, undef, undef, undef, undef, undef, undef, undef, undef, undef]) (fun K => ?_) ?_
  · cases hh : ha with
    | true =>
      have Gha := Gha; rw [hh] at Gha
      apply RegT.Q_pure rfl rfl rfl (by intro W hR; clear hR; go_simp; rfl); simp only [List.set_cons_succ, List.set_cons_zero, Nat.reduceAdd]
      apply RegT.Q_const rfl rfl rfl (.bool true) (fun _ _ h => h) (by intro W hR; clear hR; go_simp; exact RegT.OpOK_enter (Gha.out W) (fun e w' h => ⟨_, h.1, rfl, h.2⟩)); simp only [List.set_cons_succ, List.set_cons_zero, Nat.reduceAdd]
      apply RegT.Q_pure (v := .bool false) rfl rfl rfl (by intro W hR; clear hR; go_simp); simp only [List.set_cons_succ, List.set_cons_zero, Nat.reduceAdd]
      apply RegT.Q_pure (v := .bool false) rfl rfl rfl (by intro W hR; clear hR; go_simp); simp only [List.set_cons_succ, List.set_cons_zero, Nat.reduceAdd]
      apply RegT.Q_skip rfl rfl rfl; simp only [List.set_cons_succ, List.set_cons_zero, Nat.reduceAdd]
      apply RegT.Q_skip rfl rfl rfl; simp only [List.set_cons_succ, List.set_cons_zero, Nat.reduceAdd]
      apply RegT.Q_skip rfl rfl rfl; simp only [List.set_cons_succ, List.set_cons_zero, Nat.reduceAdd]
      apply RegT.Q_pure (v := .bool false) rfl rfl rfl (by intro W hR; clear hR; go_simp); simp only [List.set_cons_succ, List.set_cons_zero, Nat.reduceAdd]
      exact K _ ⟨_, (by rw [hh]; rfl), _, _, _, _, _, _, _, rfl⟩
    | false =>
      have Gha := Gha; rw [hh] at Gha
      cases hfl : ((a : Int) != 0) with
      | true =>
        apply RegT.Q_pure rfl rfl rfl (by intro W hR; clear hR; go_simp; rfl); simp only [List.set_cons_succ, List.set_cons_zero, Nat.reduceAdd]
        apply RegT.Q_const rfl rfl rfl (.bool false) (fun _ _ h => h) (by intro W hR; clear hR; go_simp; exact RegT.OpOK_enter (Gha.out W) (fun e w' h => ⟨_, h.1, rfl, h.2⟩)); simp only [List.set_cons_succ, List.set_cons_zero, Nat.reduceAdd]
        apply RegT.Q_pure (v := .bool true) rfl rfl rfl (by intro W hR; clear hR; go_simp); simp only [List.set_cons_succ, List.set_cons_zero, Nat.reduceAdd]
        apply RegT.Q_pure (v := .bool true) rfl rfl rfl (by intro W hR; clear hR; go_simp); simp only [List.set_cons_succ, List.set_cons_zero, Nat.reduceAdd]
        apply RegT.Q_pure rfl rfl rfl (by intro W hR; clear hR; go_simp; rfl); simp only [List.set_cons_succ, List.set_cons_zero, Nat.reduceAdd]
        apply RegT.Q_pure rfl rfl rfl (by intro W hR; have hc := ((HXW.out W hR).at 1).trans Xha.out; clear hR; go_simp; rfl); simp only [List.set_cons_succ, List.set_cons_zero, Nat.reduceAdd]
        apply RegT.Q_pure (v := .bool true) rfl rfl rfl (by intro W hR; clear hR; go_simp); simp only [List.set_cons_succ, List.set_cons_zero, Nat.reduceAdd]
        apply RegT.Q_pure (v := .bool true) rfl rfl rfl (by intro W hR; clear hR; go_simp); simp only [List.set_cons_succ, List.set_cons_zero, Nat.reduceAdd]
        exact K _ ⟨_, (by rw [hh, hfl]; rfl), _, _, _, _, _, _, _, rfl⟩
      | false =>
        apply RegT.Q_pure rfl rfl rfl (by intro W hR; clear hR; go_simp; rfl); simp only [List.set_cons_succ, List.set_cons_zero, Nat.reduceAdd]
        apply RegT.Q_const rfl rfl rfl (.bool false) (fun _ _ h => h) (by intro W hR; clear hR; go_simp; exact RegT.OpOK_enter (Gha.out W) (fun e w' h => ⟨_, h.1, rfl, h.2⟩)); simp only [List.set_cons_succ, List.set_cons_zero, Nat.reduceAdd]
        apply RegT.Q_pure (v := .bool true) rfl rfl rfl (by intro W hR; clear hR; go_simp); simp only [List.set_cons_succ, List.set_cons_zero, Nat.reduceAdd]
        apply RegT.Q_pure (v := .bool true) rfl rfl rfl (by intro W hR; clear hR; go_simp); simp only [List.set_cons_succ, List.set_cons_zero, Nat.reduceAdd]
        apply RegT.Q_pure rfl rfl rfl (by intro W hR; clear hR; go_simp; rfl); simp only [List.set_cons_succ, List.set_cons_zero, Nat.reduceAdd]
        apply RegT.Q_pure rfl rfl rfl (by intro W hR; have hc := ((HXW.out W hR).at 1).trans Xha.out; clear hR; go_simp; rfl); simp only [List.set_cons_succ, List.set_cons_zero, Nat.reduceAdd]
        apply RegT.Q_pure (v := .bool false) rfl rfl rfl (by intro W hR; clear hR; go_simp); simp only [List.set_cons_succ, List.set_cons_zero, Nat.reduceAdd]
        apply RegT.Q_pure (v := .bool false) rfl rfl rfl (by intro W hR; clear hR; go_simp); simp only [List.set_cons_succ, List.set_cons_zero, Nat.reduceAdd]
        exact K _ ⟨_, (by rw [hh, hfl]; rfl), _, _, _, _, _, _, _, rfl⟩
  rintro _ ⟨r0, hr0, v15, v16, v17, v18, v19, v20, v21, rfl⟩
  have HR0 := Lib.hid hr0
  clear hr0
  refine RegT.Q_cut 18 (fun l => ∃ r, r = (r0 || (!hc && ((n : Int) != 0))) ∧ ∃ v22 v23 v24 v25 v26 v27 v28 v29 v30 v31, l = [v0, .pointer (some ⟨w.heap.size, 0, none⟩), .bool false, .string fs, v4, v5, v6, v7, v8, v9, v10, v11, v12, v13, v14, v15, v16, v17, v18, v19, v20, v21, v22, v23, v24, v25, v26, v27, v28, v29, v30, v31, .bool r, undef, undef, undef, undef, undef, undef, undef, undef, undef, undef, undef, undef, undef, undef, undef, undef, undef, undef, undef, undef, undef, undef, undef, undef, undef, undef, undef, undef, undef, undef, undef, undef, undef, undef, undef, undef, undef, undef, undef, undef, undef, undef, undef, undef, undef, undef, undef, undef, undef, undef, undef, undef, undef, undef, undef, undef, undef, undef, undef, undef, undef, undef, undef, undef, undef, undef, undef, undef, undef, undef, undef, undef, undef, undef, undef, undef, undef, undef, undef, undef, undef, undef, undef, undef, undef, undef, undef]) (fun K => ?_) ?_
  · cases hr : r0 with
    | true =>
      apply RegT.Q_pure (v := .bool true) rfl rfl rfl (by intro W hR; clear hR; go_simp); simp only [List.set_cons_succ, List.set_cons_zero, Nat.reduceAdd]
      apply RegT.Q_skip rfl rfl rfl; simp only [List.set_cons_succ, List.set_cons_zero, Nat.reduceAdd]
      apply RegT.Q_skip rfl rfl rfl; simp only [List.set_cons_succ, List.set_cons_zero, Nat.reduceAdd]
      apply RegT.Q_skip rfl rfl rfl; simp only [List.set_cons_succ, List.set_cons_zero, Nat.reduceAdd]
      apply RegT.Q_skip rfl rfl rfl; simp only [List.set_cons_succ, List.set_cons_zero, Nat.reduceAdd]
      apply RegT.Q_skip rfl rfl rfl; simp only [List.set_cons_succ, List.set_cons_zero, Nat.reduceAdd]
      apply RegT.Q_skip rfl rfl rfl; simp only [List.set_cons_succ, List.set_cons_zero, Nat.reduceAdd]
      apply RegT.Q_skip rfl rfl rfl; simp only [List.set_cons_succ, List.set_cons_zero, Nat.reduceAdd]
      apply RegT.Q_skip rfl rfl rfl; simp only [List.set_cons_succ, List.set_cons_zero, Nat.reduceAdd]
      apply RegT.Q_pure (v := .bool true) rfl rfl rfl (by intro W hR; clear hR; go_simp); simp only [List.set_cons_succ, List.set_cons_zero, Nat.reduceAdd]
      exact K _ ⟨_, (by rw [hr]; rfl), _, _, _, _, _, _, _, _, _, _, rfl⟩
    | false =>
      cases hh : hc with
      | true =>
        have Ghc := Ghc; rw [hh] at Ghc
        apply RegT.Q_pure (v := .bool false) rfl rfl rfl (by intro W hR; clear hR; go_simp); simp only [List.set_cons_succ, List.set_cons_zero, Nat.reduceAdd]
        apply RegT.Q_pure rfl rfl rfl (by intro W hR; clear hR; go_simp; rfl); simp only [List.set_cons_succ, List.set_cons_zero, Nat.reduceAdd]
        apply RegT.Q_const rfl rfl rfl (.bool true) (fun _ _ h => h) (by intro W hR; clear hR; go_simp; exact RegT.OpOK_enter (Ghc.out W) (fun e w' h => ⟨_, h.1, rfl, h.2⟩)); simp only [List.set_cons_succ, List.set_cons_zero, Nat.reduceAdd]
        apply RegT.Q_pure (v := .bool false) rfl rfl rfl (by intro W hR; clear hR; go_simp); simp only [List.set_cons_succ, List.set_cons_zero, Nat.reduceAdd]
        apply RegT.Q_pure (v := .bool false) rfl rfl rfl (by intro W hR; clear hR; go_simp); simp only [List.set_cons_succ, List.set_cons_zero, Nat.reduceAdd]
        apply RegT.Q_skip rfl rfl rfl; simp only [List.set_cons_succ, List.set_cons_zero, Nat.reduceAdd]
        apply RegT.Q_skip rfl rfl rfl; simp only [List.set_cons_succ, List.set_cons_zero, Nat.reduceAdd]
        apply RegT.Q_skip rfl rfl rfl; simp only [List.set_cons_succ, List.set_cons_zero, Nat.reduceAdd]
        apply RegT.Q_pure (v := .bool false) rfl rfl rfl (by intro W hR; clear hR; go_simp); simp only [List.set_cons_succ, List.set_cons_zero, Nat.reduceAdd]
        apply RegT.Q_pure (v := .bool false) rfl rfl rfl (by intro W hR; clear hR; go_simp); simp only [List.set_cons_succ, List.set_cons_zero, Nat.reduceAdd]
        exact K _ ⟨_, (by rw [hr]; rw [hh]; rfl), _, _, _, _, _, _, _, _, _, _, rfl⟩
      | false =>
        have Ghc := Ghc; rw [hh] at Ghc
        cases hfl : ((n : Int) != 0) with
        | true =>
          apply RegT.Q_pure (v := .bool false) rfl rfl rfl (by intro W hR; clear hR; go_simp); simp only [List.set_cons_succ, List.set_cons_zero, Nat.reduceAdd]
          apply RegT.Q_pure rfl rfl rfl (by intro W hR; clear hR; go_simp; rfl); simp only [List.set_cons_succ, List.set_cons_zero, Nat.reduceAdd]
          apply RegT.Q_const rfl rfl rfl (.bool false) (fun _ _ h => h) (by intro W hR; clear hR; go_simp; exact RegT.OpOK_enter (Ghc.out W) (fun e w' h => ⟨_, h.1, rfl, h.2⟩)); simp only [List.set_cons_succ, List.set_cons_zero, Nat.reduceAdd]
          apply RegT.Q_pure (v := .bool true) rfl rfl rfl (by intro W hR; clear hR; go_simp); simp only [List.set_cons_succ, List.set_cons_zero, Nat.reduceAdd]
          apply RegT.Q_pure (v := .bool true) rfl rfl rfl (by intro W hR; clear hR; go_simp); simp only [List.set_cons_succ, List.set_cons_zero, Nat.reduceAdd]
          apply RegT.Q_pure rfl rfl rfl (by intro W hR; clear hR; go_simp; rfl); simp only [List.set_cons_succ, List.set_cons_zero, Nat.reduceAdd]
          apply RegT.Q_pure rfl rfl rfl (by intro W hR; have hc := ((HXW.out W hR).at 2).trans Xhc.out; clear hR; go_simp; rfl); simp only [List.set_cons_succ, List.set_cons_zero, Nat.reduceAdd]
          apply RegT.Q_pure (v := .bool true) rfl rfl rfl (by intro W hR; clear hR; go_simp); simp only [List.set_cons_succ, List.set_cons_zero, Nat.reduceAdd]
          apply RegT.Q_pure (v := .bool true) rfl rfl rfl (by intro W hR; clear hR; go_simp); simp only [List.set_cons_succ, List.set_cons_zero, Nat.reduceAdd]
          apply RegT.Q_pure (v := .bool true) rfl rfl rfl (by intro W hR; clear hR; go_simp); simp only [List.set_cons_succ, List.set_cons_zero, Nat.reduceAdd]
          exact K _ ⟨_, (by rw [hr]; rw [hh, hfl]; rfl), _, _, _, _, _, _, _, _, _, _, rfl⟩
        | false =>
          apply RegT.Q_pure (v := .bool false) rfl rfl rfl (by intro W hR; clear hR; go_simp); simp only [List.set_cons_succ, List.set_cons_zero, Nat.reduceAdd]
          apply RegT.Q_pure rfl rfl rfl (by intro W hR; clear hR; go_simp; rfl); simp only [List.set_cons_succ, List.set_cons_zero, Nat.reduceAdd]
          apply RegT.Q_const rfl rfl rfl (.bool false) (fun _ _ h => h) (by intro W hR; clear hR; go_simp; exact RegT.OpOK_enter (Ghc.out W) (fun e w' h => ⟨_, h.1, rfl, h.2⟩)); simp only [List.set_cons_succ, List.set_cons_zero, Nat.reduceAdd]
          apply RegT.Q_pure (v := .bool true) rfl rfl rfl (by intro W hR; clear hR; go_simp); simp only [List.set_cons_succ, List.set_cons_zero, Nat.reduceAdd]
          apply RegT.Q_pure (v := .bool true) rfl rfl rfl (by intro W hR; clear hR; go_simp); simp only [List.set_cons_succ, List.set_cons_zero, Nat.reduceAdd]
          apply RegT.Q_pure rfl rfl rfl (by intro W hR; clear hR; go_simp; rfl); simp only [List.set_cons_succ, List.set_cons_zero, Nat.reduceAdd]
          apply RegT.Q_pure rfl rfl rfl (by intro W hR; have hc := ((HXW.out W hR).at 2).trans Xhc.out; clear hR; go_simp; rfl); simp only [List.set_cons_succ, List.set_cons_zero, Nat.reduceAdd]
          apply RegT.Q_pure (v := .bool false) rfl rfl rfl (by intro W hR; clear hR; go_simp); simp only [List.set_cons_succ, List.set_cons_zero, Nat.reduceAdd]
          apply RegT.Q_pure (v := .bool false) rfl rfl rfl (by intro W hR; clear hR; go_simp); simp only [List.set_cons_succ, List.set_cons_zero, Nat.reduceAdd]
          apply RegT.Q_pure (v := .bool false) rfl rfl rfl (by intro W hR; clear hR; go_simp); simp only [List.set_cons_succ, List.set_cons_zero, Nat.reduceAdd]
          exact K _ ⟨_, (by rw [hr]; rw [hh, hfl]; rfl), _, _, _, _, _, _, _, _, _, _, rfl⟩
  rintro _ ⟨r1, hr1, v22, v23, v24, v25, v26, v27, v28, v29, v30, v31, rfl⟩
  have HR1 := Lib.hid hr1
  clear hr1
  refine RegT.Q_cut 28 (fun l => ∃ r, r = (r1 || (!hn && ((u : Int) != 0))) ∧ ∃ v32 v33 v34 v35 v36 v37 v38 v39 v40 v41, l = [v0, .pointer (some ⟨w.heap.size, 0, none⟩), .bool false, .string fs, v4, v5, v6, v7, v8, v9, v10, v11, v12, v13, v14, v15, v16, v17, v18, v19, v20, v21, v22, v23, v24, v25, v26, v27, v28, v29, v30, v31, v32, v33, v34, v35, v36, v37, v38, v39, v40, v41, .bool r, undef, undef, undef, undef, undef, undef, undef, undef, undef, undef, undef, undef, undef, undef, undef, undef, undef, undef, undef, undef, undef, undef, undef, undef, undef, undef, undef, undef, undef, undef, undef, undef, undef, undef, undef, undef, undef, undef, undef, undef, undef, undef, undef, undef, undef, undef, undef, undef, undef, undef, undef, undef, undef, undef, undef, undef, undef, undef, undef, undef, undef, undef, undef, undef, undef, undef, undef, undef, undef, undef, undef, undef, undef, undef, undef, undef, undef]) (fun K => ?_) ?_
  · cases hr : r1 with
    | true =>
      apply RegT.Q_pure (v := .bool true) rfl rfl rfl (by intro W hR; clear hR; go_simp); simp only [List.set_cons_succ, List.set_cons_zero, Nat.reduceAdd]
      apply RegT.Q_skip rfl rfl rfl; simp only [List.set_cons_succ, List.set_cons_zero, Nat.reduceAdd]
      apply RegT.Q_skip rfl rfl rfl; simp only [List.set_cons_succ, List.set_cons_zero, Nat.reduceAdd]
      apply RegT.Q_skip rfl rfl rfl; simp only [List.set_cons_succ, List.set_cons_zero, Nat.reduceAdd]
      apply RegT.Q_skip rfl rfl rfl; simp only [List.set_cons_succ, List.set_cons_zero, Nat.reduceAdd]
      apply RegT.Q_skip rfl rfl rfl; simp only [List.set_cons_succ, List.set_cons_zero, Nat.reduceAdd]
      apply RegT.Q_skip rfl rfl rfl; simp only [List.set_cons_succ, List.set_cons_zero, Nat.reduceAdd]
      apply RegT.Q_skip rfl rfl rfl; simp only [List.set_cons_succ, List.set_cons_zero, Nat.reduceAdd]
      apply RegT.Q_skip rfl rfl rfl; simp only [List.set_cons_succ, List.set_cons_zero, Nat.reduceAdd]
      apply RegT.Q_pure (v := .bool true) rfl rfl rfl (by intro W hR; clear hR; go_simp); simp only [List.set_cons_succ, List.set_cons_zero, Nat.reduceAdd]
      exact K _ ⟨_, (by rw [hr]; rfl), _, _, _, _, _, _, _, _, _, _, rfl⟩
    | false =>
      cases hh : hn with
      | true =>
        have Ghn := Ghn; rw [hh] at Ghn
        apply RegT.Q_pure (v := .bool false) rfl rfl rfl (by intro W hR; clear hR; go_simp); simp only [List.set_cons_succ, List.set_cons_zero, Nat.reduceAdd]
        apply RegT.Q_pure rfl rfl rfl (by intro W hR; clear hR; go_simp; rfl); simp only [List.set_cons_succ, List.set_cons_zero, Nat.reduceAdd]
        apply RegT.Q_const rfl rfl rfl (.bool true) (fun _ _ h => h) (by intro W hR; clear hR; go_simp; exact RegT.OpOK_enter (Ghn.out W) (fun e w' h => ⟨_, h.1, rfl, h.2⟩)); simp only [List.set_cons_succ, List.set_cons_zero, Nat.reduceAdd]
        apply RegT.Q_pure (v := .bool false) rfl rfl rfl (by intro W hR; clear hR; go_simp); simp only [List.set_cons_succ, List.set_cons_zero, Nat.reduceAdd]
        apply RegT.Q_pure (v := .bool false) rfl rfl rfl (by intro W hR; clear hR; go_simp); simp only [List.set_cons_succ, List.set_cons_zero, Nat.reduceAdd]
        apply RegT.Q_skip rfl rfl rfl; simp only [List.set_cons_succ, List.set_cons_zero, Nat.reduceAdd]
        apply RegT.Q_skip rfl rfl rfl; simp only [List.set_cons_succ, List.set_cons_zero, Nat.reduceAdd]
        apply RegT.Q_skip rfl rfl rfl; simp only [List.set_cons_succ, List.set_cons_zero, Nat.reduceAdd]
        apply RegT.Q_pure (v := .bool false) rfl rfl rfl (by intro W hR; clear hR; go_simp); simp only [List.set_cons_succ, List.set_cons_zero, Nat.reduceAdd]
        apply RegT.Q_pure (v := .bool false) rfl rfl rfl (by intro W hR; clear hR; go_simp); simp only [List.set_cons_succ, List.set_cons_zero, Nat.reduceAdd]
        exact K _ ⟨_, (by rw [hr]; rw [hh]; rfl), _, _, _, _, _, _, _, _, _, _, rfl⟩
      | false =>
        have Ghn := Ghn; rw [hh] at Ghn
        cases hfl : ((u : Int) != 0) with
        | true =>
          apply RegT.Q_pure (v := .bool false) rfl rfl rfl (by intro W hR; clear hR; go_simp); simp only [List.set_cons_succ, List.set_cons_zero, Nat.reduceAdd]
          apply RegT.Q_pure rfl rfl rfl (by intro W hR; clear hR; go_simp; rfl); simp only [List.set_cons_succ, List.set_cons_zero, Nat.reduceAdd]
          apply RegT.Q_const rfl rfl rfl (.bool false) (fun _ _ h => h) (by intro W hR; clear hR; go_simp; exact RegT.OpOK_enter (Ghn.out W) (fun e w' h => ⟨_, h.1, rfl, h.2⟩)); simp only [List.set_cons_succ, List.set_cons_zero, Nat.reduceAdd]
          apply RegT.Q_pure (v := .bool true) rfl rfl rfl (by intro W hR; clear hR; go_simp); simp only [List.set_cons_succ, List.set_cons_zero, Nat.reduceAdd]
          apply RegT.Q_pure (v := .bool true) rfl rfl rfl (by intro W hR; clear hR; go_simp); simp only [List.set_cons_succ, List.set_cons_zero, Nat.reduceAdd]
          apply RegT.Q_pure rfl rfl rfl (by intro W hR; clear hR; go_simp; rfl); simp only [List.set_cons_succ, List.set_cons_zero, Nat.reduceAdd]
          apply RegT.Q_pure rfl rfl rfl (by intro W hR; have hc := ((HXW.out W hR).at 3).trans Xhn.out; clear hR; go_simp; rfl); simp only [List.set_cons_succ, List.set_cons_zero, Nat.reduceAdd]
          apply RegT.Q_pure (v := .bool true) rfl rfl rfl (by intro W hR; clear hR; go_simp); simp only [List.set_cons_succ, List.set_cons_zero, Nat.reduceAdd]
          apply RegT.Q_pure (v := .bool true) rfl rfl rfl (by intro W hR; clear hR; go_simp); simp only [List.set_cons_succ, List.set_cons_zero, Nat.reduceAdd]
          apply RegT.Q_pure (v := .bool true) rfl rfl rfl (by intro W hR; clear hR; go_simp); simp only [List.set_cons_succ, List.set_cons_zero, Nat.reduceAdd]
          exact K _ ⟨_, (by rw [hr]; rw [hh, hfl]; rfl), _, _, _, _, _, _, _, _, _, _, rfl⟩
        | false =>
          apply RegT.Q_pure (v := .bool false) rfl rfl rfl (by intro W hR; clear hR; go_simp); simp only [List.set_cons_succ, List.set_cons_zero, Nat.reduceAdd]
          apply RegT.Q_pure rfl rfl rfl (by intro W hR; clear hR; go_simp; rfl); simp only [List.set_cons_succ, List.set_cons_zero, Nat.reduceAdd]
          apply RegT.Q_const rfl rfl rfl (.bool false) (fun _ _ h => h) (by intro W hR; clear hR; go_simp; exact RegT.OpOK_enter (Ghn.out W) (fun e w' h => ⟨_, h.1, rfl, h.2⟩)); simp only [List.set_cons_succ, List.set_cons_zero, Nat.reduceAdd]
          apply RegT.Q_pure (v := .bool true) rfl rfl rfl (by intro W hR; clear hR; go_simp); simp only [List.set_cons_succ, List.set_cons_zero, Nat.reduceAdd]
          apply RegT.Q_pure (v := .bool true) rfl rfl rfl (by intro W hR; clear hR; go_simp); simp only [List.set_cons_succ, List.set_cons_zero, Nat.reduceAdd]
          apply RegT.Q_pure rfl rfl rfl (by intro W hR; clear hR; go_simp; rfl); simp only [List.set_cons_succ, List.set_cons_zero, Nat.reduceAdd]
          apply RegT.Q_pure rfl rfl rfl (by intro W hR; have hc := ((HXW.out W hR).at 3).trans Xhn.out; clear hR; go_simp; rfl); simp only [List.set_cons_succ, List.set_cons_zero, Nat.reduceAdd]
          apply RegT.Q_pure (v := .bool false) rfl rfl rfl (by intro W hR; clear hR; go_simp); simp only [List.set_cons_succ, List.set_cons_zero, Nat.reduceAdd]
          apply RegT.Q_pure (v := .bool false) rfl rfl rfl (by intro W hR; clear hR; go_simp); simp only [List.set_cons_succ, List.set_cons_zero, Nat.reduceAdd]
          apply RegT.Q_pure (v := .bool false) rfl rfl rfl (by intro W hR; clear hR; go_simp); simp only [List.set_cons_succ, List.set_cons_zero, Nat.reduceAdd]
          exact K _ ⟨_, (by rw [hr]; rw [hh, hfl]; rfl), _, _, _, _, _, _, _, _, _, _, rfl⟩
  rintro _ ⟨r2, hr2, v32, v33, v34, v35, v36, v37, v38, v39, v40, v41, rfl⟩
  have HR2 := Lib.hid hr2
  clear hr2
  refine RegT.Q_cut 38 (fun l => ∃ r, r = (r2 || (!hm && (m != 0))) ∧ ∃ v42 v43 v44 v45 v46 v47 v48 v49 v50 v51, l = [v0, .pointer (some ⟨w.heap.size, 0, none⟩), .bool false, .string fs, v4, v5, v6, v7, v8, v9, v10, v11, v12, v13, v14, v15, v16, v17, v18, v19, v20, v21, v22, v23, v24, v25, v26, v27, v28, v29, v30, v31, v32, v33, v34, v35, v36, v37, v38, v39, v40, v41, v42, v43, v44, v45, v46, v47, v48, v49, v50, v51, .bool r, undef, undef, undef, undef, undef, undef, undef, undef, undef, undef, undef, undef, undef, undef, undef, undef, undef, undef, undef, undef, undef, undef, undef, undef, undef, undef, undef, undef, undef, undef, undef, undef, undef, undef, undef, undef, undef, undef, undef, undef, undef, undef, undef, undef, undef, undef, undef, undef, undef, undef, undef, undef, undef, undef, undef, undef, undef, undef, undef, undef, undef, undef, undef, undef, undef, undef, undef]) (fun K => ?_) ?_
  · cases hr : r2 with
    | true =>
      apply RegT.Q_pure (v := .bool true) rfl rfl rfl (by intro W hR; clear hR; go_simp); simp only [List.set_cons_succ, List.set_cons_zero, Nat.reduceAdd]
      apply RegT.Q_skip rfl rfl rfl; simp only [List.set_cons_succ, List.set_cons_zero, Nat.reduceAdd]
      apply RegT.Q_skip rfl rfl rfl; simp only [List.set_cons_succ, List.set_cons_zero, Nat.reduceAdd]
      apply RegT.Q_skip rfl rfl rfl; simp only [List.set_cons_succ, List.set_cons_zero, Nat.reduceAdd]
      apply RegT.Q_skip rfl rfl rfl; simp only [List.set_cons_succ, List.set_cons_zero, Nat.reduceAdd]
      apply RegT.Q_skip rfl rfl rfl; simp only [List.set_cons_succ, List.set_cons_zero, Nat.reduceAdd]
      apply RegT.Q_skip rfl rfl rfl; simp only [List.set_cons_succ, List.set_cons_zero, Nat.reduceAdd]
      apply RegT.Q_skip rfl rfl rfl; simp only [List.set_cons_succ, List.set_cons_zero, Nat.reduceAdd]
      apply RegT.Q_skip rfl rfl rfl; simp only [List.set_cons_succ, List.set_cons_zero, Nat.reduceAdd]
      apply RegT.Q_pure (v := .bool true) rfl rfl rfl (by intro W hR; clear hR; go_simp); simp only [List.set_cons_succ, List.set_cons_zero, Nat.reduceAdd]
      exact K _ ⟨_, (by rw [hr]; rfl), _, _, _, _, _, _, _, _, _, _, rfl⟩
    | false =>
      cases hh : hm with
      | true =>
        have Ghm := Ghm; rw [hh] at Ghm
        apply RegT.Q_pure (v := .bool false) rfl rfl rfl (by intro W hR; clear hR; go_simp); simp only [List.set_cons_succ, List.set_cons_zero, Nat.reduceAdd]
        apply RegT.Q_pure rfl rfl rfl (by intro W hR; clear hR; go_simp; rfl); simp only [List.set_cons_succ, List.set_cons_zero, Nat.reduceAdd]
        apply RegT.Q_const rfl rfl rfl (.bool true) (fun _ _ h => h) (by intro W hR; clear hR; go_simp; exact RegT.OpOK_enter (Ghm.out W) (fun e w' h => ⟨_, h.1, rfl, h.2⟩)); simp only [List.set_cons_succ, List.set_cons_zero, Nat.reduceAdd]
        apply RegT.Q_pure (v := .bool false) rfl rfl rfl (by intro W hR; clear hR; go_simp); simp only [List.set_cons_succ, List.set_cons_zero, Nat.reduceAdd]
        apply RegT.Q_pure (v := .bool false) rfl rfl rfl (by intro W hR; clear hR; go_simp); simp only [List.set_cons_succ, List.set_cons_zero, Nat.reduceAdd]
        apply RegT.Q_skip rfl rfl rfl; simp only [List.set_cons_succ, List.set_cons_zero, Nat.reduceAdd]
        apply RegT.Q_skip rfl rfl rfl; simp only [List.set_cons_succ, List.set_cons_zero, Nat.reduceAdd]
        apply RegT.Q_skip rfl rfl rfl; simp only [List.set_cons_succ, List.set_cons_zero, Nat.reduceAdd]
        apply RegT.Q_pure (v := .bool false) rfl rfl rfl (by intro W hR; clear hR; go_simp); simp only [List.set_cons_succ, List.set_cons_zero, Nat.reduceAdd]
        apply RegT.Q_pure (v := .bool false) rfl rfl rfl (by intro W hR; clear hR; go_simp); simp only [List.set_cons_succ, List.set_cons_zero, Nat.reduceAdd]
        exact K _ ⟨_, (by rw [hr]; rw [hh]; rfl), _, _, _, _, _, _, _, _, _, _, rfl⟩
      | false =>
        have Ghm := Ghm; rw [hh] at Ghm
        cases hfl : (m != 0) with
        | true =>
          apply RegT.Q_pure (v := .bool false) rfl rfl rfl (by intro W hR; clear hR; go_simp); simp only [List.set_cons_succ, List.set_cons_zero, Nat.reduceAdd]
          apply RegT.Q_pure rfl rfl rfl (by intro W hR; clear hR; go_simp; rfl); simp only [List.set_cons_succ, List.set_cons_zero, Nat.reduceAdd]
          apply RegT.Q_const rfl rfl rfl (.bool false) (fun _ _ h => h) (by intro W hR; clear hR; go_simp; exact RegT.OpOK_enter (Ghm.out W) (fun e w' h => ⟨_, h.1, rfl, h.2⟩)); simp only [List.set_cons_succ, List.set_cons_zero, Nat.reduceAdd]
          apply RegT.Q_pure (v := .bool true) rfl rfl rfl (by intro W hR; clear hR; go_simp); simp only [List.set_cons_succ, List.set_cons_zero, Nat.reduceAdd]
          apply RegT.Q_pure (v := .bool true) rfl rfl rfl (by intro W hR; clear hR; go_simp); simp only [List.set_cons_succ, List.set_cons_zero, Nat.reduceAdd]
          apply RegT.Q_pure rfl rfl rfl (by intro W hR; clear hR; go_simp; rfl); simp only [List.set_cons_succ, List.set_cons_zero, Nat.reduceAdd]
          apply RegT.Q_pure rfl rfl rfl (by intro W hR; have hc := ((HXW.out W hR).at 4).trans Xhm.out; clear hR; go_simp; rfl); simp only [List.set_cons_succ, List.set_cons_zero, Nat.reduceAdd]
          apply RegT.Q_pure (v := .bool true) rfl rfl rfl (by intro W hR; clear hR; go_simp); simp only [List.set_cons_succ, List.set_cons_zero, Nat.reduceAdd]
          apply RegT.Q_pure (v := .bool true) rfl rfl rfl (by intro W hR; clear hR; go_simp); simp only [List.set_cons_succ, List.set_cons_zero, Nat.reduceAdd]
          apply RegT.Q_pure (v := .bool true) rfl rfl rfl (by intro W hR; clear hR; go_simp); simp only [List.set_cons_succ, List.set_cons_zero, Nat.reduceAdd]
          exact K _ ⟨_, (by rw [hr]; rw [hh, hfl]; rfl), _, _, _, _, _, _, _, _, _, _, rfl⟩
        | false =>
          apply RegT.Q_pure (v := .bool false) rfl rfl rfl (by intro W hR; clear hR; go_simp); simp only [List.set_cons_succ, List.set_cons_zero, Nat.reduceAdd]
          apply RegT.Q_pure rfl rfl rfl (by intro W hR; clear hR; go_simp; rfl); simp only [List.set_cons_succ, List.set_cons_zero, Nat.reduceAdd]
          apply RegT.Q_const rfl rfl rfl (.bool false) (fun _ _ h => h) (by intro W hR; clear hR; go_simp; exact RegT.OpOK_enter (Ghm.out W) (fun e w' h => ⟨_, h.1, rfl, h.2⟩)); simp only [List.set_cons_succ, List.set_cons_zero, Nat.reduceAdd]
          apply RegT.Q_pure (v := .bool true) rfl rfl rfl (by intro W hR; clear hR; go_simp); simp only [List.set_cons_succ, List.set_cons_zero, Nat.reduceAdd]
          apply RegT.Q_pure (v := .bool true) rfl rfl rfl (by intro W hR; clear hR; go_simp); simp only [List.set_cons_succ, List.set_cons_zero, Nat.reduceAdd]
          apply RegT.Q_pure rfl rfl rfl (by intro W hR; clear hR; go_simp; rfl); simp only [List.set_cons_succ, List.set_cons_zero, Nat.reduceAdd]
          apply RegT.Q_pure rfl rfl rfl (by intro W hR; have hc := ((HXW.out W hR).at 4).trans Xhm.out; clear hR; go_simp; rfl); simp only [List.set_cons_succ, List.set_cons_zero, Nat.reduceAdd]
          apply RegT.Q_pure (v := .bool false) rfl rfl rfl (by intro W hR; clear hR; go_simp); simp only [List.set_cons_succ, List.set_cons_zero, Nat.reduceAdd]
          apply RegT.Q_pure (v := .bool false) rfl rfl rfl (by intro W hR; clear hR; go_simp); simp only [List.set_cons_succ, List.set_cons_zero, Nat.reduceAdd]
          apply RegT.Q_pure (v := .bool false) rfl rfl rfl (by intro W hR; clear hR; go_simp); simp only [List.set_cons_succ, List.set_cons_zero, Nat.reduceAdd]
          exact K _ ⟨_, (by rw [hr]; rw [hh, hfl]; rfl), _, _, _, _, _, _, _, _, _, _, rfl⟩
  rintro _ ⟨r3, hr3, v42, v43, v44, v45, v46, v47, v48, v49, v50, v51, rfl⟩
  have HR3 := Lib.hid hr3
  clear hr3
  refine RegT.Q_cut 49 (fun l => ∃ r, r = (r3 || (!hs && (!s.sameB Sp.zero))) ∧ ∃ v52 v53 v54 v55 v56 v57 v58 v59 v60 v61 v62, l = [v0, .pointer (some ⟨w.heap.size, 0, none⟩), .bool false, .string fs, v4, v5, v6, v7, v8, v9, v10, v11, v12, v13, v14, v15, v16, v17, v18, v19, v20, v21, v22, v23, v24, v25, v26, v27, v28, v29, v30, v31, v32, v33, v34, v35, v36, v37, v38, v39, v40, v41, v42, v43, v44, v45, v46, v47, v48, v49, v50, v51, v52, v53, v54, v55, v56, v57, v58, v59, v60, v61, v62, .bool r, undef, undef, undef, undef, undef, undef, undef, undef, undef, undef, undef, undef, undef, undef, undef, undef, undef, undef, undef, undef, undef, undef, undef, undef, undef, undef, undef, undef, undef, undef, undef, undef, undef, undef, undef, undef, undef, undef, undef, undef, undef, undef, undef, undef, undef, undef, undef, undef, undef, undef, undef, undef, undef, undef, undef, undef]) (fun K => ?_) ?_
  · cases hr : r3 with
    | true =>
      apply RegT.Q_pure (v := .bool true) rfl rfl rfl (by intro W hR; clear hR; go_simp); simp only [List.set_cons_succ, List.set_cons_zero, Nat.reduceAdd]
      apply RegT.Q_skip rfl rfl rfl; simp only [List.set_cons_succ, List.set_cons_zero, Nat.reduceAdd]
      apply RegT.Q_skip rfl rfl rfl; simp only [List.set_cons_succ, List.set_cons_zero, Nat.reduceAdd]
      apply RegT.Q_skip rfl rfl rfl; simp only [List.set_cons_succ, List.set_cons_zero, Nat.reduceAdd]
      apply RegT.Q_skip rfl rfl rfl; simp only [List.set_cons_succ, List.set_cons_zero, Nat.reduceAdd]
      apply RegT.Q_skip rfl rfl rfl; simp only [List.set_cons_succ, List.set_cons_zero, Nat.reduceAdd]
      apply RegT.Q_skip rfl rfl rfl; simp only [List.set_cons_succ, List.set_cons_zero, Nat.reduceAdd]
      apply RegT.Q_skip rfl rfl rfl; simp only [List.set_cons_succ, List.set_cons_zero, Nat.reduceAdd]
      apply RegT.Q_skip rfl rfl rfl; simp only [List.set_cons_succ, List.set_cons_zero, Nat.reduceAdd]
      apply RegT.Q_skip rfl rfl rfl; simp only [List.set_cons_succ, List.set_cons_zero, Nat.reduceAdd]
      apply RegT.Q_pure (v := .bool true) rfl rfl rfl (by intro W hR; clear hR; go_simp); simp only [List.set_cons_succ, List.set_cons_zero, Nat.reduceAdd]
      exact K _ ⟨_, (by rw [hr]; rfl), _, _, _, _, _, _, _, _, _, _, _, rfl⟩
    | false =>
      cases hh : hs with
      | true =>
        have Ghs := Ghs; rw [hh] at Ghs
        apply RegT.Q_pure (v := .bool false) rfl rfl rfl (by intro W hR; clear hR; go_simp); simp only [List.set_cons_succ, List.set_cons_zero, Nat.reduceAdd]
        apply RegT.Q_pure rfl rfl rfl (by intro W hR; clear hR; go_simp; rfl); simp only [List.set_cons_succ, List.set_cons_zero, Nat.reduceAdd]
        apply RegT.Q_const rfl rfl rfl (.bool true) (fun _ _ h => h) (by intro W hR; clear hR; go_simp; exact RegT.OpOK_enter (Ghs.out W) (fun e w' h => ⟨_, h.1, rfl, h.2⟩)); simp only [List.set_cons_succ, List.set_cons_zero, Nat.reduceAdd]
        apply RegT.Q_pure (v := .bool false) rfl rfl rfl (by intro W hR; clear hR; go_simp); simp only [List.set_cons_succ, List.set_cons_zero, Nat.reduceAdd]
        apply RegT.Q_pure (v := .bool false) rfl rfl rfl (by intro W hR; clear hR; go_simp); simp only [List.set_cons_succ, List.set_cons_zero, Nat.reduceAdd]
        apply RegT.Q_skip rfl rfl rfl; simp only [List.set_cons_succ, List.set_cons_zero, Nat.reduceAdd]
        apply RegT.Q_skip rfl rfl rfl; simp only [List.set_cons_succ, List.set_cons_zero, Nat.reduceAdd]
        apply RegT.Q_skip rfl rfl rfl; simp only [List.set_cons_succ, List.set_cons_zero, Nat.reduceAdd]
        apply RegT.Q_skip rfl rfl rfl; simp only [List.set_cons_succ, List.set_cons_zero, Nat.reduceAdd]
        apply RegT.Q_pure (v := .bool false) rfl rfl rfl (by intro W hR; clear hR; go_simp); simp only [List.set_cons_succ, List.set_cons_zero, Nat.reduceAdd]
        apply RegT.Q_pure (v := .bool false) rfl rfl rfl (by intro W hR; clear hR; go_simp); simp only [List.set_cons_succ, List.set_cons_zero, Nat.reduceAdd]
        exact K _ ⟨_, (by rw [hr]; rw [hh]; rfl), _, _, _, _, _, _, _, _, _, _, _, rfl⟩
      | false =>
        have Ghs := Ghs; rw [hh] at Ghs
        cases hfl : (!s.sameB Sp.zero) with
        | true =>
          apply RegT.Q_pure (v := .bool false) rfl rfl rfl (by intro W hR; clear hR; go_simp); simp only [List.set_cons_succ, List.set_cons_zero, Nat.reduceAdd]
          apply RegT.Q_pure rfl rfl rfl (by intro W hR; clear hR; go_simp; rfl); simp only [List.set_cons_succ, List.set_cons_zero, Nat.reduceAdd]
          apply RegT.Q_const rfl rfl rfl (.bool false) (fun _ _ h => h) (by intro W hR; clear hR; go_simp; exact RegT.OpOK_enter (Ghs.out W) (fun e w' h => ⟨_, h.1, rfl, h.2⟩)); simp only [List.set_cons_succ, List.set_cons_zero, Nat.reduceAdd]
          apply RegT.Q_pure (v := .bool true) rfl rfl rfl (by intro W hR; clear hR; go_simp); simp only [List.set_cons_succ, List.set_cons_zero, Nat.reduceAdd]
          apply RegT.Q_pure (v := .bool true) rfl rfl rfl (by intro W hR; clear hR; go_simp); simp only [List.set_cons_succ, List.set_cons_zero, Nat.reduceAdd]
          apply RegT.Q_pure rfl rfl rfl (by intro W hR; clear hR; go_simp; rfl); simp only [List.set_cons_succ, List.set_cons_zero, Nat.reduceAdd]
          apply RegT.Q_pure rfl rfl rfl (by exact fun W hR => load_spec (x := ⟨k, a, n, u, m, s, o, b, z, p, q⟩) (.tmp 58) rfl rfl (XS.out _ _ (HXW.out W hR))); simp only [List.set_cons_succ, List.set_cons_zero, Nat.reduceAdd]
          apply RegT.Q_pure rfl rfl rfl (by exact fun W hR => exec_build27 rfl); simp only [List.set_cons_succ, List.set_cons_zero, Nat.reduceAdd]
          apply RegT.Q_pure (v := .bool true) rfl rfl rfl (by exact fun W hR => exec_neq27 (s := s) (t := Sp.zero) (.tmp 59) (.tmp 60) rfl rfl rfl hfl); simp only [List.set_cons_succ, List.set_cons_zero, Nat.reduceAdd]
          apply RegT.Q_pure (v := .bool true) rfl rfl rfl (by intro W hR; clear hR; go_simp); simp only [List.set_cons_succ, List.set_cons_zero, Nat.reduceAdd]
          apply RegT.Q_pure (v := .bool true) rfl rfl rfl (by intro W hR; clear hR; go_simp); simp only [List.set_cons_succ, List.set_cons_zero, Nat.reduceAdd]
          exact K _ ⟨_, (by rw [hr]; rw [hh, hfl]; rfl), _, _, _, _, _, _, _, _, _, _, _, rfl⟩
        | false =>
          apply RegT.Q_pure (v := .bool false) rfl rfl rfl (by intro W hR; clear hR; go_simp); simp only [List.set_cons_succ, List.set_cons_zero, Nat.reduceAdd]
          apply RegT.Q_pure rfl rfl rfl (by intro W hR; clear hR; go_simp; rfl); simp only [List.set_cons_succ, List.set_cons_zero, Nat.reduceAdd]
          apply RegT.Q_const rfl rfl rfl (.bool false) (fun _ _ h => h) (by intro W hR; clear hR; go_simp; exact RegT.OpOK_enter (Ghs.out W) (fun e w' h => ⟨_, h.1, rfl, h.2⟩)); simp only [List.set_cons_succ, List.set_cons_zero, Nat.reduceAdd]
          apply RegT.Q_pure (v := .bool true) rfl rfl rfl (by intro W hR; clear hR; go_simp); simp only [List.set_cons_succ, List.set_cons_zero, Nat.reduceAdd]
          apply RegT.Q_pure (v := .bool true) rfl rfl rfl (by intro W hR; clear hR; go_simp); simp only [List.set_cons_succ, List.set_cons_zero, Nat.reduceAdd]
          apply RegT.Q_pure rfl rfl rfl (by intro W hR; clear hR; go_simp; rfl); simp only [List.set_cons_succ, List.set_cons_zero, Nat.reduceAdd]
          apply RegT.Q_pure rfl rfl rfl (by exact fun W hR => load_spec (x := ⟨k, a, n, u, m, s, o, b, z, p, q⟩) (.tmp 58) rfl rfl (XS.out _ _ (HXW.out W hR))); simp only [List.set_cons_succ, List.set_cons_zero, Nat.reduceAdd]
          apply RegT.Q_pure rfl rfl rfl (by exact fun W hR => exec_build27 rfl); simp only [List.set_cons_succ, List.set_cons_zero, Nat.reduceAdd]
          apply RegT.Q_pure (v := .bool false) rfl rfl rfl (by exact fun W hR => exec_neq27 (s := s) (t := Sp.zero) (.tmp 59) (.tmp 60) rfl rfl rfl hfl); simp only [List.set_cons_succ, List.set_cons_zero, Nat.reduceAdd]
          apply RegT.Q_pure (v := .bool false) rfl rfl rfl (by intro W hR; clear hR; go_simp); simp only [List.set_cons_succ, List.set_cons_zero, Nat.reduceAdd]
          apply RegT.Q_pure (v := .bool false) rfl rfl rfl (by intro W hR; clear hR; go_simp); simp only [List.set_cons_succ, List.set_cons_zero, Nat.reduceAdd]
          exact K _ ⟨_, (by rw [hr]; rw [hh, hfl]; rfl), _, _, _, _, _, _, _, _, _, _, _, rfl⟩
  rintro _ ⟨r4, hr4, v52, v53, v54, v55, v56, v57, v58, v59, v60, v61, v62, rfl⟩
  have HR4 := Lib.hid hr4
  clear hr4
  refine RegT.Q_cut 58 (fun l => ∃ r, r = (r4 || (!ho && o)) ∧ ∃ v63 v64 v65 v66 v67 v68 v69 v70 v71, l = [v0, .pointer (some ⟨w.heap.size, 0, none⟩), .bool false, .string fs, v4, v5, v6, v7, v8, v9, v10, v11, v12, v13, v14, v15, v16, v17, v18, v19, v20, v21, v22, v23, v24, v25, v26, v27, v28, v29, v30, v31, v32, v33, v34, v35, v36, v37, v38, v39, v40, v41, v42, v43, v44, v45, v46, v47, v48, v49, v50, v51, v52, v53, v54, v55, v56, v57, v58, v59, v60, v61, v62, v63, v64, v65, v66, v67, v68, v69, v70, v71, .bool r, undef, undef, undef, undef, undef, undef, undef, undef, undef, undef, undef, undef, undef, undef, undef, undef, undef, undef, undef, undef, undef, undef, undef, undef, undef, undef, undef, undef, undef, undef, undef, undef, undef, undef, undef, undef, undef, undef, undef, undef, undef, undef, undef, undef, undef, undef, undef]) (fun K => ?_) ?_
  · cases hr : r4 with
    | true =>
      apply RegT.Q_pure (v := .bool true) rfl rfl rfl (by intro W hR; clear hR; go_simp); simp only [List.set_cons_succ, List.set_cons_zero, Nat.reduceAdd]
      apply RegT.Q_skip rfl rfl rfl; simp only [List.set_cons_succ, List.set_cons_zero, Nat.reduceAdd]
      apply RegT.Q_skip rfl rfl rfl; simp only [List.set_cons_succ, List.set_cons_zero, Nat.reduceAdd]
      apply RegT.Q_skip rfl rfl rfl; simp only [List.set_cons_succ, List.set_cons_zero, Nat.reduceAdd]
      apply RegT.Q_skip rfl rfl rfl; simp only [List.set_cons_succ, List.set_cons_zero, Nat.reduceAdd]
      apply RegT.Q_skip rfl rfl rfl; simp only [List.set_cons_succ, List.set_cons_zero, Nat.reduceAdd]
      apply RegT.Q_skip rfl rfl rfl; simp only [List.set_cons_succ, List.set_cons_zero, Nat.reduceAdd]
      apply RegT.Q_skip rfl rfl rfl; simp only [List.set_cons_succ, List.set_cons_zero, Nat.reduceAdd]
      apply RegT.Q_pure (v := .bool true) rfl rfl rfl (by intro W hR; clear hR; go_simp); simp only [List.set_cons_succ, List.set_cons_zero, Nat.reduceAdd]
      exact K _ ⟨_, (by rw [hr]; rfl), _, _, _, _, _, _, _, _, _, rfl⟩
    | false =>
      cases hh : ho with
      | true =>
        have Gho := Gho; rw [hh] at Gho
        apply RegT.Q_pure (v := .bool false) rfl rfl rfl (by intro W hR; clear hR; go_simp); simp only [List.set_cons_succ, List.set_cons_zero, Nat.reduceAdd]
        apply RegT.Q_pure rfl rfl rfl (by intro W hR; clear hR; go_simp; rfl); simp only [List.set_cons_succ, List.set_cons_zero, Nat.reduceAdd]
        apply RegT.Q_const rfl rfl rfl (.bool true) (fun _ _ h => h) (by intro W hR; clear hR; go_simp; exact RegT.OpOK_enter (Gho.out W) (fun e w' h => ⟨_, h.1, rfl, h.2⟩)); simp only [List.set_cons_succ, List.set_cons_zero, Nat.reduceAdd]
        apply RegT.Q_pure (v := .bool false) rfl rfl rfl (by intro W hR; clear hR; go_simp); simp only [List.set_cons_succ, List.set_cons_zero, Nat.reduceAdd]
        apply RegT.Q_pure (v := .bool false) rfl rfl rfl (by intro W hR; clear hR; go_simp); simp only [List.set_cons_succ, List.set_cons_zero, Nat.reduceAdd]
        apply RegT.Q_skip rfl rfl rfl; simp only [List.set_cons_succ, List.set_cons_zero, Nat.reduceAdd]
        apply RegT.Q_skip rfl rfl rfl; simp only [List.set_cons_succ, List.set_cons_zero, Nat.reduceAdd]
        apply RegT.Q_pure (v := .bool false) rfl rfl rfl (by intro W hR; clear hR; go_simp); simp only [List.set_cons_succ, List.set_cons_zero, Nat.reduceAdd]
        apply RegT.Q_pure (v := .bool false) rfl rfl rfl (by intro W hR; clear hR; go_simp); simp only [List.set_cons_succ, List.set_cons_zero, Nat.reduceAdd]
        exact K _ ⟨_, (by rw [hr]; rw [hh]; rfl), _, _, _, _, _, _, _, _, _, rfl⟩
      | false =>
        have Gho := Gho; rw [hh] at Gho
        cases hfl : o with
        | true =>
          apply RegT.Q_pure (v := .bool false) rfl rfl rfl (by intro W hR; clear hR; go_simp); simp only [List.set_cons_succ, List.set_cons_zero, Nat.reduceAdd]
          apply RegT.Q_pure rfl rfl rfl (by intro W hR; clear hR; go_simp; rfl); simp only [List.set_cons_succ, List.set_cons_zero, Nat.reduceAdd]
          apply RegT.Q_const rfl rfl rfl (.bool false) (fun _ _ h => h) (by intro W hR; clear hR; go_simp; exact RegT.OpOK_enter (Gho.out W) (fun e w' h => ⟨_, h.1, rfl, h.2⟩)); simp only [List.set_cons_succ, List.set_cons_zero, Nat.reduceAdd]
          apply RegT.Q_pure (v := .bool true) rfl rfl rfl (by intro W hR; clear hR; go_simp); simp only [List.set_cons_succ, List.set_cons_zero, Nat.reduceAdd]
          apply RegT.Q_pure (v := .bool true) rfl rfl rfl (by intro W hR; clear hR; go_simp); simp only [List.set_cons_succ, List.set_cons_zero, Nat.reduceAdd]
          apply RegT.Q_pure rfl rfl rfl (by intro W hR; clear hR; go_simp; rfl); simp only [List.set_cons_succ, List.set_cons_zero, Nat.reduceAdd]
          apply RegT.Q_pure (v := .bool true) rfl rfl rfl (by intro W hR; have hc := ((HXW.out W hR).at 30).trans Xho.out; clear hR; subst hfl; go_simp); simp only [List.set_cons_succ, List.set_cons_zero, Nat.reduceAdd]
          apply RegT.Q_pure (v := .bool true) rfl rfl rfl (by intro W hR; clear hR; go_simp); simp only [List.set_cons_succ, List.set_cons_zero, Nat.reduceAdd]
          apply RegT.Q_pure (v := .bool true) rfl rfl rfl (by intro W hR; clear hR; go_simp); simp only [List.set_cons_succ, List.set_cons_zero, Nat.reduceAdd]
          exact K _ ⟨_, (by rw [hr]; rw [hh, hfl]; rfl), _, _, _, _, _, _, _, _, _, rfl⟩
        | false =>
          apply RegT.Q_pure (v := .bool false) rfl rfl rfl (by intro W hR; clear hR; go_simp); simp only [List.set_cons_succ, List.set_cons_zero, Nat.reduceAdd]
          apply RegT.Q_pure rfl rfl rfl (by intro W hR; clear hR; go_simp; rfl); simp only [List.set_cons_succ, List.set_cons_zero, Nat.reduceAdd]
          apply RegT.Q_const rfl rfl rfl (.bool false) (fun _ _ h => h) (by intro W hR; clear hR; go_simp; exact RegT.OpOK_enter (Gho.out W) (fun e w' h => ⟨_, h.1, rfl, h.2⟩)); simp only [List.set_cons_succ, List.set_cons_zero, Nat.reduceAdd]
          apply RegT.Q_pure (v := .bool true) rfl rfl rfl (by intro W hR; clear hR; go_simp); simp only [List.set_cons_succ, List.set_cons_zero, Nat.reduceAdd]
          apply RegT.Q_pure (v := .bool true) rfl rfl rfl (by intro W hR; clear hR; go_simp); simp only [List.set_cons_succ, List.set_cons_zero, Nat.reduceAdd]
          apply RegT.Q_pure rfl rfl rfl (by intro W hR; clear hR; go_simp; rfl); simp only [List.set_cons_succ, List.set_cons_zero, Nat.reduceAdd]
          apply RegT.Q_pure (v := .bool false) rfl rfl rfl (by intro W hR; have hc := ((HXW.out W hR).at 30).trans Xho.out; clear hR; subst hfl; go_simp); simp only [List.set_cons_succ, List.set_cons_zero, Nat.reduceAdd]
          apply RegT.Q_pure (v := .bool false) rfl rfl rfl (by intro W hR; clear hR; go_simp); simp only [List.set_cons_succ, List.set_cons_zero, Nat.reduceAdd]
          apply RegT.Q_pure (v := .bool false) rfl rfl rfl (by intro W hR; clear hR; go_simp); simp only [List.set_cons_succ, List.set_cons_zero, Nat.reduceAdd]
          exact K _ ⟨_, (by rw [hr]; rw [hh, hfl]; rfl), _, _, _, _, _, _, _, _, _, rfl⟩
  rintro _ ⟨r5, hr5, v63, v64, v65, v66, v67, v68, v69, v70, v71, rfl⟩
  have HR5 := Lib.hid hr5
  clear hr5
  refine RegT.Q_cut 67 (fun l => ∃ r, r = (r5 || (!hb && b)) ∧ ∃ v72 v73 v74 v75 v76 v77 v78 v79 v80, l = [v0, .pointer (some ⟨w.heap.size, 0, none⟩), .bool false, .string fs, v4, v5, v6, v7, v8, v9, v10, v11, v12, v13, v14, v15, v16, v17, v18, v19, v20, v21, v22, v23, v24, v25, v26, v27, v28, v29, v30, v31, v32, v33, v34, v35, v36, v37, v38, v39, v40, v41, v42, v43, v44, v45, v46, v47, v48, v49, v50, v51, v52, v53, v54, v55, v56, v57, v58, v59, v60, v61, v62, v63, v64, v65, v66, v67, v68, v69, v70, v71, v72, v73, v74, v75, v76, v77, v78, v79, v80, .bool r, undef, undef, undef, undef, undef, undef, undef, undef, undef, undef, undef, undef, undef, undef, undef, undef, undef, undef, undef, undef, undef, undef, undef, undef, undef, undef, undef, undef, undef, undef, undef, undef, undef, undef, undef, undef, undef, undef]) (fun K => ?_) ?_
  · cases hr : r5 with
    | true =>
      apply RegT.Q_pure (v := .bool true) rfl rfl rfl (by intro W hR; clear hR; go_simp); simp only [List.set_cons_succ, List.set_cons_zero, Nat.reduceAdd]
      apply RegT.Q_skip rfl rfl rfl; simp only [List.set_cons_succ, List.set_cons_zero, Nat.reduceAdd]
      apply RegT.Q_skip rfl rfl rfl; simp only [List.set_cons_succ, List.set_cons_zero, Nat.reduceAdd]
      apply RegT.Q_skip rfl rfl rfl; simp only [List.set_cons_succ, List.set_cons_zero, Nat.reduceAdd]
      apply RegT.Q_skip rfl rfl rfl; simp only [List.set_cons_succ, List.set_cons_zero, Nat.reduceAdd]
      apply RegT.Q_skip rfl rfl rfl; simp only [List.set_cons_succ, List.set_cons_zero, Nat.reduceAdd]
      apply RegT.Q_skip rfl rfl rfl; simp only [List.set_cons_succ, List.set_cons_zero, Nat.reduceAdd]
      apply RegT.Q_skip rfl rfl rfl; simp only [List.set_cons_succ, List.set_cons_zero, Nat.reduceAdd]
      apply RegT.Q_pure (v := .bool true) rfl rfl rfl (by intro W hR; clear hR; go_simp); simp only [List.set_cons_succ, List.set_cons_zero, Nat.reduceAdd]
      exact K _ ⟨_, (by rw [hr]; rfl), _, _, _, _, _, _, _, _, _, rfl⟩
    | false =>
      cases hh : hb with
      | true =>
        have Ghb := Ghb; rw [hh] at Ghb
        apply RegT.Q_pure (v := .bool false) rfl rfl rfl (by intro W hR; clear hR; go_simp); simp only [List.set_cons_succ, List.set_cons_zero, Nat.reduceAdd]
        apply RegT.Q_pure rfl rfl rfl (by intro W hR; clear hR; go_simp; rfl); simp only [List.set_cons_succ, List.set_cons_zero, Nat.reduceAdd]
        apply RegT.Q_const rfl rfl rfl (.bool true) (fun _ _ h => h) (by intro W hR; clear hR; go_simp; exact RegT.OpOK_enter (Ghb.out W) (fun e w' h => ⟨_, h.1, rfl, h.2⟩)); simp only [List.set_cons_succ, List.set_cons_zero, Nat.reduceAdd]
        apply RegT.Q_pure (v := .bool false) rfl rfl rfl (by intro W hR; clear hR; go_simp); simp only [List.set_cons_succ, List.set_cons_zero, Nat.reduceAdd]
        apply RegT.Q_pure (v := .bool false) rfl rfl rfl (by intro W hR; clear hR; go_simp); simp only [List.set_cons_succ, List.set_cons_zero, Nat.reduceAdd]
        apply RegT.Q_skip rfl rfl rfl; simp only [List.set_cons_succ, List.set_cons_zero, Nat.reduceAdd]
        apply RegT.Q_skip rfl rfl rfl; simp only [List.set_cons_succ, List.set_cons_zero, Nat.reduceAdd]
        apply RegT.Q_pure (v := .bool false) rfl rfl rfl (by intro W hR; clear hR; go_simp); simp only [List.set_cons_succ, List.set_cons_zero, Nat.reduceAdd]
        apply RegT.Q_pure (v := .bool false) rfl rfl rfl (by intro W hR; clear hR; go_simp); simp only [List.set_cons_succ, List.set_cons_zero, Nat.reduceAdd]
        exact K _ ⟨_, (by rw [hr]; rw [hh]; rfl), _, _, _, _, _, _, _, _, _, rfl⟩
      | false =>
        have Ghb := Ghb; rw [hh] at Ghb
        cases hfl : b with
        | true =>
          apply RegT.Q_pure (v := .bool false) rfl rfl rfl (by intro W hR; clear hR; go_simp); simp only [List.set_cons_succ, List.set_cons_zero, Nat.reduceAdd]
          apply RegT.Q_pure rfl rfl rfl (by intro W hR; clear hR; go_simp; rfl); simp only [List.set_cons_succ, List.set_cons_zero, Nat.reduceAdd]
          apply RegT.Q_const rfl rfl rfl (.bool false) (fun _ _ h => h) (by intro W hR; clear hR; go_simp; exact RegT.OpOK_enter (Ghb.out W) (fun e w' h => ⟨_, h.1, rfl, h.2⟩)); simp only [List.set_cons_succ, List.set_cons_zero, Nat.reduceAdd]
          apply RegT.Q_pure (v := .bool true) rfl rfl rfl (by intro W hR; clear hR; go_simp); simp only [List.set_cons_succ, List.set_cons_zero, Nat.reduceAdd]
          apply RegT.Q_pure (v := .bool true) rfl rfl rfl (by intro W hR; clear hR; go_simp); simp only [List.set_cons_succ, List.set_cons_zero, Nat.reduceAdd]
          apply RegT.Q_pure rfl rfl rfl (by intro W hR; clear hR; go_simp; rfl); simp only [List.set_cons_succ, List.set_cons_zero, Nat.reduceAdd]
          apply RegT.Q_pure (v := .bool true) rfl rfl rfl (by intro W hR; have hc := ((HXW.out W hR).at 31).trans Xhb.out; clear hR; subst hfl; go_simp); simp only [List.set_cons_succ, List.set_cons_zero, Nat.reduceAdd]
          apply RegT.Q_pure (v := .bool true) rfl rfl rfl (by intro W hR; clear hR; go_simp); simp only [List.set_cons_succ, List.set_cons_zero, Nat.reduceAdd]
          apply RegT.Q_pure (v := .bool true) rfl rfl rfl (by intro W hR; clear hR; go_simp); simp only [List.set_cons_succ, List.set_cons_zero, Nat.reduceAdd]
          exact K _ ⟨_, (by rw [hr]; rw [hh, hfl]; rfl), _, _, _, _, _, _, _, _, _, rfl⟩
        | false =>
          apply RegT.Q_pure (v := .bool false) rfl rfl rfl (by intro W hR; clear hR; go_simp); simp only [List.set_cons_succ, List.set_cons_zero, Nat.reduceAdd]
          apply RegT.Q_pure rfl rfl rfl (by intro W hR; clear hR; go_simp; rfl); simp only [List.set_cons_succ, List.set_cons_zero, Nat.reduceAdd]
          apply RegT.Q_const rfl rfl rfl (.bool false) (fun _ _ h => h) (by intro W hR; clear hR; go_simp; exact RegT.OpOK_enter (Ghb.out W) (fun e w' h => ⟨_, h.1, rfl, h.2⟩)); simp only [List.set_cons_succ, List.set_cons_zero, Nat.reduceAdd]
          apply RegT.Q_pure (v := .bool true) rfl rfl rfl (by intro W hR; clear hR; go_simp); simp only [List.set_cons_succ, List.set_cons_zero, Nat.reduceAdd]
          apply RegT.Q_pure (v := .bool true) rfl rfl rfl (by intro W hR; clear hR; go_simp); simp only [List.set_cons_succ, List.set_cons_zero, Nat.reduceAdd]
          apply RegT.Q_pure rfl rfl rfl (by intro W hR; clear hR; go_simp; rfl); simp only [List.set_cons_succ, List.set_cons_zero, Nat.reduceAdd]
          apply RegT.Q_pure (v := .bool false) rfl rfl rfl (by intro W hR; have hc := ((HXW.out W hR).at 31).trans Xhb.out; clear hR; subst hfl; go_simp); simp only [List.set_cons_succ, List.set_cons_zero, Nat.reduceAdd]
          apply RegT.Q_pure (v := .bool false) rfl rfl rfl (by intro W hR; clear hR; go_simp); simp only [List.set_cons_succ, List.set_cons_zero, Nat.reduceAdd]
          apply RegT.Q_pure (v := .bool false) rfl rfl rfl (by intro W hR; clear hR; go_simp); simp only [List.set_cons_succ, List.set_cons_zero, Nat.reduceAdd]
          exact K _ ⟨_, (by rw [hr]; rw [hh, hfl]; rfl), _, _, _, _, _, _, _, _, _, rfl⟩
  rintro _ ⟨r6, hr6, v72, v73, v74, v75, v76, v77, v78, v79, v80, rfl⟩
  have HR6 := Lib.hid hr6
  clear hr6
  refine RegT.Q_cut 77 (fun l => ∃ r, r = (r6 || (!hk && ((z : Int) != 0))) ∧ ∃ v81 v82 v83 v84 v85 v86 v87 v88 v89 v90, l = [v0, .pointer (some ⟨w.heap.size, 0, none⟩), .bool false, .string fs, v4, v5, v6, v7, v8, v9, v10, v11, v12, v13, v14, v15, v16, v17, v18, v19, v20, v21, v22, v23, v24, v25, v26, v27, v28, v29, v30, v31, v32, v33, v34, v35, v36, v37, v38, v39, v40, v41, v42, v43, v44, v45, v46, v47, v48, v49, v50, v51, v52, v53, v54, v55, v56, v57, v58, v59, v60, v61, v62, v63, v64, v65, v66, v67, v68, v69, v70, v71, v72, v73, v74, v75, v76, v77, v78, v79, v80, v81, v82, v83, v84, v85, v86, v87, v88, v89, v90, .bool r, undef, undef, undef, undef, undef, undef, undef, undef, undef, undef, undef, undef, undef, undef, undef, undef, undef, undef, undef, undef, undef, undef, undef, undef, undef, undef, undef, undef]) (fun K => ?_) ?_
  · cases hr : r6 with
    | true =>
      apply RegT.Q_pure (v := .bool true) rfl rfl rfl (by intro W hR; clear hR; go_simp); simp only [List.set_cons_succ, List.set_cons_zero, Nat.reduceAdd]
      apply RegT.Q_skip rfl rfl rfl; simp only [List.set_cons_succ, List.set_cons_zero, Nat.reduceAdd]
      apply RegT.Q_skip rfl rfl rfl; simp only [List.set_cons_succ, List.set_cons_zero, Nat.reduceAdd]
      apply RegT.Q_skip rfl rfl rfl; simp only [List.set_cons_succ, List.set_cons_zero, Nat.reduceAdd]
      apply RegT.Q_skip rfl rfl rfl; simp only [List.set_cons_succ, List.set_cons_zero, Nat.reduceAdd]
      apply RegT.Q_skip rfl rfl rfl; simp only [List.set_cons_succ, List.set_cons_zero, Nat.reduceAdd]
      apply RegT.Q_skip rfl rfl rfl; simp only [List.set_cons_succ, List.set_cons_zero, Nat.reduceAdd]
      apply RegT.Q_skip rfl rfl rfl; simp only [List.set_cons_succ, List.set_cons_zero, Nat.reduceAdd]
      apply RegT.Q_skip rfl rfl rfl; simp only [List.set_cons_succ, List.set_cons_zero, Nat.reduceAdd]
      apply RegT.Q_pure (v := .bool true) rfl rfl rfl (by intro W hR; clear hR; go_simp); simp only [List.set_cons_succ, List.set_cons_zero, Nat.reduceAdd]
      exact K _ ⟨_, (by rw [hr]; rfl), _, _, _, _, _, _, _, _, _, _, rfl⟩
    | false =>
      cases hh : hk with
      | true =>
        have Ghk := Ghk; rw [hh] at Ghk
        apply RegT.Q_pure (v := .bool false) rfl rfl rfl (by intro W hR; clear hR; go_simp); simp only [List.set_cons_succ, List.set_cons_zero, Nat.reduceAdd]
        apply RegT.Q_pure rfl rfl rfl (by intro W hR; clear hR; go_simp; rfl); simp only [List.set_cons_succ, List.set_cons_zero, Nat.reduceAdd]
        apply RegT.Q_const rfl rfl rfl (.bool true) (fun _ _ h => h) (by intro W hR; clear hR; go_simp; exact RegT.OpOK_enter (Ghk.out W) (fun e w' h => ⟨_, h.1, rfl, h.2⟩)); simp only [List.set_cons_succ, List.set_cons_zero, Nat.reduceAdd]
        apply RegT.Q_pure (v := .bool false) rfl rfl rfl (by intro W hR; clear hR; go_simp); simp only [List.set_cons_succ, List.set_cons_zero, Nat.reduceAdd]
        apply RegT.Q_pure (v := .bool false) rfl rfl rfl (by intro W hR; clear hR; go_simp); simp only [List.set_cons_succ, List.set_cons_zero, Nat.reduceAdd]
        apply RegT.Q_skip rfl rfl rfl; simp only [List.set_cons_succ, List.set_cons_zero, Nat.reduceAdd]
        apply RegT.Q_skip rfl rfl rfl; simp only [List.set_cons_succ, List.set_cons_zero, Nat.reduceAdd]
        apply RegT.Q_skip rfl rfl rfl; simp only [List.set_cons_succ, List.set_cons_zero, Nat.reduceAdd]
        apply RegT.Q_pure (v := .bool false) rfl rfl rfl (by intro W hR; clear hR; go_simp); simp only [List.set_cons_succ, List.set_cons_zero, Nat.reduceAdd]
        apply RegT.Q_pure (v := .bool false) rfl rfl rfl (by intro W hR; clear hR; go_simp); simp only [List.set_cons_succ, List.set_cons_zero, Nat.reduceAdd]
        exact K _ ⟨_, (by rw [hr]; rw [hh]; rfl), _, _, _, _, _, _, _, _, _, _, rfl⟩
      | false =>
        have Ghk := Ghk; rw [hh] at Ghk
        cases hfl : ((z : Int) != 0) with
        | true =>
          apply RegT.Q_pure (v := .bool false) rfl rfl rfl (by intro W hR; clear hR; go_simp); simp only [List.set_cons_succ, List.set_cons_zero, Nat.reduceAdd]
          apply RegT.Q_pure rfl rfl rfl (by intro W hR; clear hR; go_simp; rfl); simp only [List.set_cons_succ, List.set_cons_zero, Nat.reduceAdd]
          apply RegT.Q_const rfl rfl rfl (.bool false) (fun _ _ h => h) (by intro W hR; clear hR; go_simp; exact RegT.OpOK_enter (Ghk.out W) (fun e w' h => ⟨_, h.1, rfl, h.2⟩)); simp only [List.set_cons_succ, List.set_cons_zero, Nat.reduceAdd]
          apply RegT.Q_pure (v := .bool true) rfl rfl rfl (by intro W hR; clear hR; go_simp); simp only [List.set_cons_succ, List.set_cons_zero, Nat.reduceAdd]
          apply RegT.Q_pure (v := .bool true) rfl rfl rfl (by intro W hR; clear hR; go_simp); simp only [List.set_cons_succ, List.set_cons_zero, Nat.reduceAdd]
          apply RegT.Q_pure rfl rfl rfl (by intro W hR; clear hR; go_simp; rfl); simp only [List.set_cons_succ, List.set_cons_zero, Nat.reduceAdd]
          apply RegT.Q_pure rfl rfl rfl (by intro W hR; have hc := ((HXW.out W hR).at 32).trans Xhk.out; clear hR; go_simp; rfl); simp only [List.set_cons_succ, List.set_cons_zero, Nat.reduceAdd]
          apply RegT.Q_pure (v := .bool true) rfl rfl rfl (by intro W hR; clear hR; go_simp); simp only [List.set_cons_succ, List.set_cons_zero, Nat.reduceAdd]
          apply RegT.Q_pure (v := .bool true) rfl rfl rfl (by intro W hR; clear hR; go_simp); simp only [List.set_cons_succ, List.set_cons_zero, Nat.reduceAdd]
          apply RegT.Q_pure (v := .bool true) rfl rfl rfl (by intro W hR; clear hR; go_simp); simp only [List.set_cons_succ, List.set_cons_zero, Nat.reduceAdd]
          exact K _ ⟨_, (by rw [hr]; rw [hh, hfl]; rfl), _, _, _, _, _, _, _, _, _, _, rfl⟩
        | false =>
          apply RegT.Q_pure (v := .bool false) rfl rfl rfl (by intro W hR; clear hR; go_simp); simp only [List.set_cons_succ, List.set_cons_zero, Nat.reduceAdd]
          apply RegT.Q_pure rfl rfl rfl (by intro W hR; clear hR; go_simp; rfl); simp only [List.set_cons_succ, List.set_cons_zero, Nat.reduceAdd]
          apply RegT.Q_const rfl rfl rfl (.bool false) (fun _ _ h => h) (by intro W hR; clear hR; go_simp; exact RegT.OpOK_enter (Ghk.out W) (fun e w' h => ⟨_, h.1, rfl, h.2⟩)); simp only [List.set_cons_succ, List.set_cons_zero, Nat.reduceAdd]
          apply RegT.Q_pure (v := .bool true) rfl rfl rfl (by intro W hR; clear hR; go_simp); simp only [List.set_cons_succ, List.set_cons_zero, Nat.reduceAdd]
          apply RegT.Q_pure (v := .bool true) rfl rfl rfl (by intro W hR; clear hR; go_simp); simp only [List.set_cons_succ, List.set_cons_zero, Nat.reduceAdd]
          apply RegT.Q_pure rfl rfl rfl (by intro W hR; clear hR; go_simp; rfl); simp only [List.set_cons_succ, List.set_cons_zero, Nat.reduceAdd]
          apply RegT.Q_pure rfl rfl rfl (by intro W hR; have hc := ((HXW.out W hR).at 32).trans Xhk.out; clear hR; go_simp; rfl); simp only [List.set_cons_succ, List.set_cons_zero, Nat.reduceAdd]
          apply RegT.Q_pure (v := .bool false) rfl rfl rfl (by intro W hR; clear hR; go_simp); simp only [List.set_cons_succ, List.set_cons_zero, Nat.reduceAdd]
          apply RegT.Q_pure (v := .bool false) rfl rfl rfl (by intro W hR; clear hR; go_simp); simp only [List.set_cons_succ, List.set_cons_zero, Nat.reduceAdd]
          apply RegT.Q_pure (v := .bool false) rfl rfl rfl (by intro W hR; clear hR; go_simp); simp only [List.set_cons_succ, List.set_cons_zero, Nat.reduceAdd]
          exact K _ ⟨_, (by rw [hr]; rw [hh, hfl]; rfl), _, _, _, _, _, _, _, _, _, _, rfl⟩
  rintro _ ⟨r7, hr7, v81, v82, v83, v84, v85, v86, v87, v88, v89, v90, rfl⟩
  have HR7 := Lib.hid hr7
  clear hr7
  refine RegT.Q_cut 87 (fun l => ∃ r, r = (r7 || (!hp && (p != 0))) ∧ ∃ v91 v92 v93 v94 v95 v96 v97 v98 v99 v100, l = [v0, .pointer (some ⟨w.heap.size, 0, none⟩), .bool false, .string fs, v4, v5, v6, v7, v8, v9, v10, v11, v12, v13, v14, v15, v16, v17, v18, v19, v20, v21, v22, v23, v24, v25, v26, v27, v28, v29, v30, v31, v32, v33, v34, v35, v36, v37, v38, v39, v40, v41, v42, v43, v44, v45, v46, v47, v48, v49, v50, v51, v52, v53, v54, v55, v56, v57, v58, v59, v60, v61, v62, v63, v64, v65, v66, v67, v68, v69, v70, v71, v72, v73, v74, v75, v76, v77, v78, v79, v80, v81, v82, v83, v84, v85, v86, v87, v88, v89, v90, v91, v92, v93, v94, v95, v96, v97, v98, v99, v100, .bool r, undef, undef, undef, undef, undef, undef, undef, undef, undef, undef, undef, undef, undef, undef, undef, undef, undef, undef]) (fun K => ?_) ?_
  · cases hr : r7 with
    | true =>
      apply RegT.Q_pure (v := .bool true) rfl rfl rfl (by intro W hR; clear hR; go_simp); simp only [List.set_cons_succ, List.set_cons_zero, Nat.reduceAdd]
      apply RegT.Q_skip rfl rfl rfl; simp only [List.set_cons_succ, List.set_cons_zero, Nat.reduceAdd]
      apply RegT.Q_skip rfl rfl rfl; simp only [List.set_cons_succ, List.set_cons_zero, Nat.reduceAdd]
      apply RegT.Q_skip rfl rfl rfl; simp only [List.set_cons_succ, List.set_cons_zero, Nat.reduceAdd]
      apply RegT.Q_skip rfl rfl rfl; simp only [List.set_cons_succ, List.set_cons_zero, Nat.reduceAdd]
      apply RegT.Q_skip rfl rfl rfl; simp only [List.set_cons_succ, List.set_cons_zero, Nat.reduceAdd]
      apply RegT.Q_skip rfl rfl rfl; simp only [List.set_cons_succ, List.set_cons_zero, Nat.reduceAdd]
      apply RegT.Q_skip rfl rfl rfl; simp only [List.set_cons_succ, List.set_cons_zero, Nat.reduceAdd]
      apply RegT.Q_skip rfl rfl rfl; simp only [List.set_cons_succ, List.set_cons_zero, Nat.reduceAdd]
      apply RegT.Q_pure (v := .bool true) rfl rfl rfl (by intro W hR; clear hR; go_simp); simp only [List.set_cons_succ, List.set_cons_zero, Nat.reduceAdd]
      exact K _ ⟨_, (by rw [hr]; rfl), _, _, _, _, _, _, _, _, _, _, rfl⟩
    | false =>
      cases hh : hp with
      | true =>
        have Ghp := Ghp; rw [hh] at Ghp
        apply RegT.Q_pure (v := .bool false) rfl rfl rfl (by intro W hR; clear hR; go_simp); simp only [List.set_cons_succ, List.set_cons_zero, Nat.reduceAdd]
        apply RegT.Q_pure rfl rfl rfl (by intro W hR; clear hR; go_simp; rfl); simp only [List.set_cons_succ, List.set_cons_zero, Nat.reduceAdd]
        apply RegT.Q_const rfl rfl rfl (.bool true) (fun _ _ h => h) (by intro W hR; clear hR; go_simp; exact RegT.OpOK_enter (Ghp.out W) (fun e w' h => ⟨_, h.1, rfl, h.2⟩)); simp only [List.set_cons_succ, List.set_cons_zero, Nat.reduceAdd]
        apply RegT.Q_pure (v := .bool false) rfl rfl rfl (by intro W hR; clear hR; go_simp); simp only [List.set_cons_succ, List.set_cons_zero, Nat.reduceAdd]
        apply RegT.Q_pure (v := .bool false) rfl rfl rfl (by intro W hR; clear hR; go_simp); simp only [List.set_cons_succ, List.set_cons_zero, Nat.reduceAdd]
        apply RegT.Q_skip rfl rfl rfl; simp only [List.set_cons_succ, List.set_cons_zero, Nat.reduceAdd]
        apply RegT.Q_skip rfl rfl rfl; simp only [List.set_cons_succ, List.set_cons_zero, Nat.reduceAdd]
        apply RegT.Q_skip rfl rfl rfl; simp only [List.set_cons_succ, List.set_cons_zero, Nat.reduceAdd]
        apply RegT.Q_pure (v := .bool false) rfl rfl rfl (by intro W hR; clear hR; go_simp); simp only [List.set_cons_succ, List.set_cons_zero, Nat.reduceAdd]
        apply RegT.Q_pure (v := .bool false) rfl rfl rfl (by intro W hR; clear hR; go_simp); simp only [List.set_cons_succ, List.set_cons_zero, Nat.reduceAdd]
        exact K _ ⟨_, (by rw [hr]; rw [hh]; rfl), _, _, _, _, _, _, _, _, _, _, rfl⟩
      | false =>
        have Ghp := Ghp; rw [hh] at Ghp
        cases hfl : (p != 0) with
        | true =>
          apply RegT.Q_pure (v := .bool false) rfl rfl rfl (by intro W hR; clear hR; go_simp); simp only [List.set_cons_succ, List.set_cons_zero, Nat.reduceAdd]
          apply RegT.Q_pure rfl rfl rfl (by intro W hR; clear hR; go_simp; rfl); simp only [List.set_cons_succ, List.set_cons_zero, Nat.reduceAdd]
          apply RegT.Q_const rfl rfl rfl (.bool false) (fun _ _ h => h) (by intro W hR; clear hR; go_simp; exact RegT.OpOK_enter (Ghp.out W) (fun e w' h => ⟨_, h.1, rfl, h.2⟩)); simp only [List.set_cons_succ, List.set_cons_zero, Nat.reduceAdd]
          apply RegT.Q_pure (v := .bool true) rfl rfl rfl (by intro W hR; clear hR; go_simp); simp only [List.set_cons_succ, List.set_cons_zero, Nat.reduceAdd]
          apply RegT.Q_pure (v := .bool true) rfl rfl rfl (by intro W hR; clear hR; go_simp); simp only [List.set_cons_succ, List.set_cons_zero, Nat.reduceAdd]
          apply RegT.Q_pure rfl rfl rfl (by intro W hR; clear hR; go_simp; rfl); simp only [List.set_cons_succ, List.set_cons_zero, Nat.reduceAdd]
          apply RegT.Q_pure rfl rfl rfl (by intro W hR; have hc := ((HXW.out W hR).at 33).trans Xhp.out; clear hR; go_simp; rfl); simp only [List.set_cons_succ, List.set_cons_zero, Nat.reduceAdd]
          apply RegT.Q_pure (v := .bool true) rfl rfl rfl (by intro W hR; clear hR; go_simp); simp only [List.set_cons_succ, List.set_cons_zero, Nat.reduceAdd]
          apply RegT.Q_pure (v := .bool true) rfl rfl rfl (by intro W hR; clear hR; go_simp); simp only [List.set_cons_succ, List.set_cons_zero, Nat.reduceAdd]
          apply RegT.Q_pure (v := .bool true) rfl rfl rfl (by intro W hR; clear hR; go_simp); simp only [List.set_cons_succ, List.set_cons_zero, Nat.reduceAdd]
          exact K _ ⟨_, (by rw [hr]; rw [hh, hfl]; rfl), _, _, _, _, _, _, _, _, _, _, rfl⟩
        | false =>
          apply RegT.Q_pure (v := .bool false) rfl rfl rfl (by intro W hR; clear hR; go_simp); simp only [List.set_cons_succ, List.set_cons_zero, Nat.reduceAdd]
          apply RegT.Q_pure rfl rfl rfl (by intro W hR; clear hR; go_simp; rfl); simp only [List.set_cons_succ, List.set_cons_zero, Nat.reduceAdd]
          apply RegT.Q_const rfl rfl rfl (.bool false) (fun _ _ h => h) (by intro W hR; clear hR; go_simp; exact RegT.OpOK_enter (Ghp.out W) (fun e w' h => ⟨_, h.1, rfl, h.2⟩)); simp only [List.set_cons_succ, List.set_cons_zero, Nat.reduceAdd]
          apply RegT.Q_pure (v := .bool true) rfl rfl rfl (by intro W hR; clear hR; go_simp); simp only [List.set_cons_succ, List.set_cons_zero, Nat.reduceAdd]
          apply RegT.Q_pure (v := .bool true) rfl rfl rfl (by intro W hR; clear hR; go_simp); simp only [List.set_cons_succ, List.set_cons_zero, Nat.reduceAdd]
          apply RegT.Q_pure rfl rfl rfl (by intro W hR; clear hR; go_simp; rfl); simp only [List.set_cons_succ, List.set_cons_zero, Nat.reduceAdd]
          apply RegT.Q_pure rfl rfl rfl (by intro W hR; have hc := ((HXW.out W hR).at 33).trans Xhp.out; clear hR; go_simp; rfl); simp only [List.set_cons_succ, List.set_cons_zero, Nat.reduceAdd]
          apply RegT.Q_pure (v := .bool false) rfl rfl rfl (by intro W hR; clear hR; go_simp); simp only [List.set_cons_succ, List.set_cons_zero, Nat.reduceAdd]
          apply RegT.Q_pure (v := .bool false) rfl rfl rfl (by intro W hR; clear hR; go_simp); simp only [List.set_cons_succ, List.set_cons_zero, Nat.reduceAdd]
          apply RegT.Q_pure (v := .bool false) rfl rfl rfl (by intro W hR; clear hR; go_simp); simp only [List.set_cons_succ, List.set_cons_zero, Nat.reduceAdd]
          exact K _ ⟨_, (by rw [hr]; rw [hh, hfl]; rfl), _, _, _, _, _, _, _, _, _, _, rfl⟩
  rintro _ ⟨r8, hr8, v91, v92, v93, v94, v95, v96, v97, v98, v99, v100, rfl⟩
  have HR8 := Lib.hid hr8
  clear hr8
  refine RegT.Q_cut 97 (fun l => ∃ r, r = (r8 || (!hq && (q != 0))) ∧ ∃ v101 v102 v103 v104 v105 v106 v107 v108 v109 v110, l = [v0, .pointer (some ⟨w.heap.size, 0, none⟩), .bool false, .string fs, v4, v5, v6, v7, v8, v9, v10, v11, v12, v13, v14, v15, v16, v17, v18, v19, v20, v21, v22, v23, v24, v25, v26, v27, v28, v29, v30, v31, v32, v33, v34, v35, v36, v37, v38, v39, v40, v41, v42, v43, v44, v45, v46, v47, v48, v49, v50, v51, v52, v53, v54, v55, v56, v57, v58, v59, v60, v61, v62, v63, v64, v65, v66, v67, v68, v69, v70, v71, v72, v73, v74, v75, v76, v77, v78, v79, v80, v81, v82, v83, v84, v85, v86, v87, v88, v89, v90, v91, v92, v93, v94, v95, v96, v97, v98, v99, v100, v101, v102, v103, v104, v105, v106, v107, v108, v109, v110, .bool r, undef, undef, undef, undef, undef, undef, undef, undef]) (fun K => ?_) ?_
  · cases hr : r8 with
    | true =>
      apply RegT.Q_pure (v := .bool true) rfl rfl rfl (by intro W hR; clear hR; go_simp); simp only [List.set_cons_succ, List.set_cons_zero, Nat.reduceAdd]
      apply RegT.Q_skip rfl rfl rfl; simp only [List.set_cons_succ, List.set_cons_zero, Nat.reduceAdd]
      apply RegT.Q_skip rfl rfl rfl; simp only [List.set_cons_succ, List.set_cons_zero, Nat.reduceAdd]
      apply RegT.Q_skip rfl rfl rfl; simp only [List.set_cons_succ, List.set_cons_zero, Nat.reduceAdd]
      apply RegT.Q_skip rfl rfl rfl; simp only [List.set_cons_succ, List.set_cons_zero, Nat.reduceAdd]
      apply RegT.Q_skip rfl rfl rfl; simp only [List.set_cons_succ, List.set_cons_zero, Nat.reduceAdd]
      apply RegT.Q_skip rfl rfl rfl; simp only [List.set_cons_succ, List.set_cons_zero, Nat.reduceAdd]
      apply RegT.Q_skip rfl rfl rfl; simp only [List.set_cons_succ, List.set_cons_zero, Nat.reduceAdd]
      apply RegT.Q_skip rfl rfl rfl; simp only [List.set_cons_succ, List.set_cons_zero, Nat.reduceAdd]
      apply RegT.Q_pure (v := .bool true) rfl rfl rfl (by intro W hR; clear hR; go_simp); simp only [List.set_cons_succ, List.set_cons_zero, Nat.reduceAdd]
      exact K _ ⟨_, (by rw [hr]; rfl), _, _, _, _, _, _, _, _, _, _, rfl⟩
    | false =>
      cases hh : hq with
      | true =>
        have Ghq := Ghq; rw [hh] at Ghq
        apply RegT.Q_pure (v := .bool false) rfl rfl rfl (by intro W hR; clear hR; go_simp); simp only [List.set_cons_succ, List.set_cons_zero, Nat.reduceAdd]
        apply RegT.Q_pure rfl rfl rfl (by intro W hR; clear hR; go_simp; rfl); simp only [List.set_cons_succ, List.set_cons_zero, Nat.reduceAdd]
        apply RegT.Q_const rfl rfl rfl (.bool true) (fun _ _ h => h) (by intro W hR; clear hR; go_simp; exact RegT.OpOK_enter (Ghq.out W) (fun e w' h => ⟨_, h.1, rfl, h.2⟩)); simp only [List.set_cons_succ, List.set_cons_zero, Nat.reduceAdd]
        apply RegT.Q_pure (v := .bool false) rfl rfl rfl (by intro W hR; clear hR; go_simp); simp only [List.set_cons_succ, List.set_cons_zero, Nat.reduceAdd]
        apply RegT.Q_pure (v := .bool false) rfl rfl rfl (by intro W hR; clear hR; go_simp); simp only [List.set_cons_succ, List.set_cons_zero, Nat.reduceAdd]
        apply RegT.Q_skip rfl rfl rfl; simp only [List.set_cons_succ, List.set_cons_zero, Nat.reduceAdd]
        apply RegT.Q_skip rfl rfl rfl; simp only [List.set_cons_succ, List.set_cons_zero, Nat.reduceAdd]
        apply RegT.Q_skip rfl rfl rfl; simp only [List.set_cons_succ, List.set_cons_zero, Nat.reduceAdd]
        apply RegT.Q_pure (v := .bool false) rfl rfl rfl (by intro W hR; clear hR; go_simp); simp only [List.set_cons_succ, List.set_cons_zero, Nat.reduceAdd]
        apply RegT.Q_pure (v := .bool false) rfl rfl rfl (by intro W hR; clear hR; go_simp); simp only [List.set_cons_succ, List.set_cons_zero, Nat.reduceAdd]
        exact K _ ⟨_, (by rw [hr]; rw [hh]; rfl), _, _, _, _, _, _, _, _, _, _, rfl⟩
      | false =>
        have Ghq := Ghq; rw [hh] at Ghq
        cases hfl : (q != 0) with
        | true =>
          apply RegT.Q_pure (v := .bool false) rfl rfl rfl (by intro W hR; clear hR; go_simp); simp only [List.set_cons_succ, List.set_cons_zero, Nat.reduceAdd]
          apply RegT.Q_pure rfl rfl rfl (by intro W hR; clear hR; go_simp; rfl); simp only [List.set_cons_succ, List.set_cons_zero, Nat.reduceAdd]
          apply RegT.Q_const rfl rfl rfl (.bool false) (fun _ _ h => h) (by intro W hR; clear hR; go_simp; exact RegT.OpOK_enter (Ghq.out W) (fun e w' h => ⟨_, h.1, rfl, h.2⟩)); simp only [List.set_cons_succ, List.set_cons_zero, Nat.reduceAdd]
          apply RegT.Q_pure (v := .bool true) rfl rfl rfl (by intro W hR; clear hR; go_simp); simp only [List.set_cons_succ, List.set_cons_zero, Nat.reduceAdd]
          apply RegT.Q_pure (v := .bool true) rfl rfl rfl (by intro W hR; clear hR; go_simp); simp only [List.set_cons_succ, List.set_cons_zero, Nat.reduceAdd]
          apply RegT.Q_pure rfl rfl rfl (by intro W hR; clear hR; go_simp; rfl); simp only [List.set_cons_succ, List.set_cons_zero, Nat.reduceAdd]
          apply RegT.Q_pure rfl rfl rfl (by intro W hR; have hc := ((HXW.out W hR).at 34).trans Xhq.out; clear hR; go_simp; rfl); simp only [List.set_cons_succ, List.set_cons_zero, Nat.reduceAdd]
          apply RegT.Q_pure (v := .bool true) rfl rfl rfl (by intro W hR; clear hR; go_simp); simp only [List.set_cons_succ, List.set_cons_zero, Nat.reduceAdd]
          apply RegT.Q_pure (v := .bool true) rfl rfl rfl (by intro W hR; clear hR; go_simp); simp only [List.set_cons_succ, List.set_cons_zero, Nat.reduceAdd]
          apply RegT.Q_pure (v := .bool true) rfl rfl rfl (by intro W hR; clear hR; go_simp); simp only [List.set_cons_succ, List.set_cons_zero, Nat.reduceAdd]
          exact K _ ⟨_, (by rw [hr]; rw [hh, hfl]; rfl), _, _, _, _, _, _, _, _, _, _, rfl⟩
        | false =>
          apply RegT.Q_pure (v := .bool false) rfl rfl rfl (by intro W hR; clear hR; go_simp); simp only [List.set_cons_succ, List.set_cons_zero, Nat.reduceAdd]
          apply RegT.Q_pure rfl rfl rfl (by intro W hR; clear hR; go_simp; rfl); simp only [List.set_cons_succ, List.set_cons_zero, Nat.reduceAdd]
          apply RegT.Q_const rfl rfl rfl (.bool false) (fun _ _ h => h) (by intro W hR; clear hR; go_simp; exact RegT.OpOK_enter (Ghq.out W) (fun e w' h => ⟨_, h.1, rfl, h.2⟩)); simp only [List.set_cons_succ, List.set_cons_zero, Nat.reduceAdd]
          apply RegT.Q_pure (v := .bool true) rfl rfl rfl (by intro W hR; clear hR; go_simp); simp only [List.set_cons_succ, List.set_cons_zero, Nat.reduceAdd]
          apply RegT.Q_pure (v := .bool true) rfl rfl rfl (by intro W hR; clear hR; go_simp); simp only [List.set_cons_succ, List.set_cons_zero, Nat.reduceAdd]
          apply RegT.Q_pure rfl rfl rfl (by intro W hR; clear hR; go_simp; rfl); simp only [List.set_cons_succ, List.set_cons_zero, Nat.reduceAdd]
          apply RegT.Q_pure rfl rfl rfl (by intro W hR; have hc := ((HXW.out W hR).at 34).trans Xhq.out; clear hR; go_simp; rfl); simp only [List.set_cons_succ, List.set_cons_zero, Nat.reduceAdd]
          apply RegT.Q_pure (v := .bool false) rfl rfl rfl (by intro W hR; clear hR; go_simp); simp only [List.set_cons_succ, List.set_cons_zero, Nat.reduceAdd]
          apply RegT.Q_pure (v := .bool false) rfl rfl rfl (by intro W hR; clear hR; go_simp); simp only [List.set_cons_succ, List.set_cons_zero, Nat.reduceAdd]
          apply RegT.Q_pure (v := .bool false) rfl rfl rfl (by intro W hR; clear hR; go_simp); simp only [List.set_cons_succ, List.set_cons_zero, Nat.reduceAdd]
          exact K _ ⟨_, (by rw [hr]; rw [hh, hfl]; rfl), _, _, _, _, _, _, _, _, _, _, rfl⟩
  rintro _ ⟨r9, hr9, v101, v102, v103, v104, v105, v106, v107, v108, v109, v110, rfl⟩
  have HR9 := Lib.hid hr9
  clear hr9
  refine RegT.Q_end rfl (fun W5 hR => ?_)
  have HRW := Lib.hid hR
  have HB5 := Lib.hid (HB0.out.trans (hR.mono HB0.out.size))
  clear hR
  have hr : r9 = ((((((((((!ha && ((a : Int) != 0)) || (!hc && ((n : Int) != 0))) || (!hn && ((u : Int) != 0))) || (!hm && (m != 0))) || (!hs && (!s.sameB Sp.zero))) || (!ho && o)) || (!hb && b)) || (!hk && ((z : Int) != 0))) || (!hp && (p != 0))) || (!hq && (q != 0))) := by rw [HR9.out, HR8.out, HR7.out, HR6.out, HR5.out, HR4.out, HR3.out, HR2.out, HR1.out, HR0.out]
  rw [← hr] at hres
  have Hres := Lib.hid hres
  clear hres hr HX
  cases hr9 : r9 with
  | true =>
    have e : res = false := by rw [Hres.out, hr9]; rfl
    have He := Lib.hid e
    clear hr9 e
    go_wp2
    go_ret
    exact ⟨by rw [He.out]; rfl, HB5.out⟩
  | false =>
    cases hh : hs with
    | false =>
      have e : res = true := by rw [Hres.out, hr9, hh]; rfl
      have He := Lib.hid e
      have Ghs := Ghs
      rw [hh] at Ghs
      clear hr9 e hh
      go_wp2_with (go_at_call 56; (with_reducible refine (Ghs.out _).mono ?_); rintro r w6 ⟨rfl, hB⟩; have HB6 := Lib.hid (HB5.out.trans (hB.mono HB5.out.size)); clear hB)
      go_ret
      exact ⟨by rw [He.out]; rfl, HB6.out⟩
    | true =>
      have e : res = s.mayB := by rw [Hres.out, hr9, hh]; cases s.mayB <;> rfl
      have He := Lib.hid e
      have Ghs := Ghs
      rw [hh] at Ghs
      clear hr9 e hh
      generalize s.mayB = sm at *
      go_wp2_with (first
        | (go_at_call 56; (with_reducible refine (Ghs.out _).mono ?_); rintro r w6 ⟨rfl, hB⟩; have HB6 := Lib.hid (HB5.out.trans (hB.mono HB5.out.size)); have HX6 := Lib.hid ((HXW.out _ HRW.out).keeps hB.block); clear hB)
        | (refine wpList_load_sp6 (x := ⟨k, a, n, u, m, s, o, b, z, p, q⟩) rfl (.tmp 116) rfl rfl (XS.out _ _ HX6.out) ?_)
        | (go_at_call 57; (with_reducible refine (GM.out _).mono ?_); rintro r w7 ⟨rfl, hB⟩; have HB7 := Lib.hid (HB6.out.trans (hB.mono HB6.out.size)); clear hB))
      go_ret
      exact ⟨by rw [He.out]; rfl, HB7.out⟩

set_option maxRecDepth 100000 in
set_option maxHeartbeats 3200000 in
theorem out20_w (k : Nat) (cx : Array Value) (w : World) (hcx : cx[0]? = some (.int .u8 (k : Int))) (hk : k < 1 ∨ 14 < k) : Calls Try.prog 20 #[.agg cx] w fun e w' => e = .returned (.bool false) ∧ Below w.heap.size w w' := by
  have HB0 := Lib.hid ((Below.refl w.heap.size w).alloc (Nat.le_refl _) (.cells cx 30))
  have HX := Lib.hid (CcAt.new w cx)
  have HFh := Lib.hid (fun W => fields55_w k W)
  have x0 := (HX.out.at 0).trans hcx
  clear hcx
  rcases hk with hk | hk
  · have f1 : decide ((k : Int) < 1) = true := by simp; omega
    clear hk
    go_enter Try.func20, Try.ntmps20
    go_wp2_with (go_at_call 55; (with_reducible refine (HFh.out _).mono ?_); rintro r w2 ⟨rfl, rfl⟩)
    go_ret
    exact ⟨rfl, HB0.out⟩
  · have f1 : decide ((k : Int) < 1) = false := by simp; omega
    have f2 : decide ((14 : Int) < (k : Int)) = true := by simp; omega
    clear hk
    go_enter Try.func20, Try.ntmps20
    go_wp2_with (go_at_call 55; (with_reducible refine (HFh.out _).mono ?_); rintro r w2 ⟨rfl, rfl⟩)
    go_ret
    exact ⟨rfl, HB0.out⟩
theorem flds_len (k : Nat) : (flds k).length ≤ 10 := by
  unfold flds
  repeat' split
  all_goals decide
theorem bare_plain (x : Cm) (h1 : 1 ≤ x.kind) (h2 : x.kind ≤ 14) : (((((((((((!(flds x.kind).contains 97 && ((x.account : Int) != 0)) || (!(flds x.kind).contains 99 && ((x.contract : Int) != 0))) || (!(flds x.kind).contains 110 && ((x.number : Int) != 0))) || (!(flds x.kind).contains 109 && (x.amount != 0))) || (!(flds x.kind).contains 115 && (!x.spec.sameB Sp.zero))) || (!(flds x.kind).contains 111 && x.on)) || (!(flds x.kind).contains 98 && x.buy)) || (!(flds x.kind).contains 107 && ((x.as_ : Int) != 0))) || (!(flds x.kind).contains 112 && (x.price != 0))) || (!(flds x.kind).contains 113 && (x.qty != 0)))) = !(x.same x.bare) := by
  obtain ⟨k, a, n, u, m, s, o, b, z, p, q⟩ := x
  dsimp only at *
  have hk : k = 1 ∨ k = 2 ∨ k = 3 ∨ k = 4 ∨ k = 5 ∨ k = 6 ∨ k = 7 ∨ k = 8 ∨ k = 9 ∨ k = 10 ∨ k = 11 ∨ k = 12 ∨ k = 13 ∨ k = 14 := by omega
  have hss : s.sameB s = true := by unfold Sp.sameB; simp
  rcases hk with rfl | rfl | rfl | rfl | rfl | rfl | rfl | rfl | rfl | rfl | rfl | rfl | rfl | rfl
  all_goals
    simp only [Cm.same, Cm.bare, flds, hasA, hasC, hasN, hasM, hasS, hasO, hasB, hasK, hasP, hasQ, List.contains, List.elem]
    simp [bne, Bool.not_and, Bool.or_assoc, hss]
theorem refmay20_w (x : Cm) (hok : x.ok) (w : World) : Calls Try.prog 20 #[.agg x.cells] w fun e w' => e = .returned (.bool x.mayB) ∧ Below w.heap.size w w' := by
  by_cases h : 1 ≤ x.kind ∧ x.kind ≤ 14
  · have hp := bare_plain x h.1 h.2
    have hl := flds_len x.kind
    have hm : x.mayB = (x.same x.bare && (!(flds x.kind).contains 115 || x.spec.mayB)) := by
      unfold Cm.mayB
      rw [decide_eq_true h.1, decide_eq_true h.2, Bool.true_and, Bool.true_and]
      congr 2
      unfold flds
      have hk : x.kind = 1 ∨ x.kind = 2 ∨ x.kind = 3 ∨ x.kind = 4 ∨ x.kind = 5 ∨ x.kind = 6 ∨ x.kind = 7 ∨ x.kind = 8 ∨ x.kind = 9 ∨ x.kind = 10 ∨ x.kind = 11 ∨ x.kind = 12 ∨ x.kind = 13 ∨ x.kind = 14 := by omega
      rcases hk with e | e | e | e | e | e | e | e | e | e | e | e | e | e <;> rw [e] <;> rfl
    refine bad20_w x.kind x.account x.contract x.number x.amount x.spec x.on x.buy x.as_ x.price x.qty w x.cells rfl (flds x.kind) ⟨(flds x.kind).toArray⟩ ((flds x.kind).contains 97) ((flds x.kind).contains 99) ((flds x.kind).contains 110) ((flds x.kind).contains 109) ((flds x.kind).contains 115) ((flds x.kind).contains 111) ((flds x.kind).contains 98) ((flds x.kind).contains 107) ((flds x.kind).contains 112) ((flds x.kind).contains 113) h.1 h.2
      (fun W => fields55_w _ W) (fun W => has56_w _ 97 W (by omega)) (fun W => has56_w _ 99 W (by omega)) (fun W => has56_w _ 110 W (by omega)) (fun W => has56_w _ 109 W (by omega)) (fun W => has56_w _ 115 W (by omega)) (fun W => has56_w _ 111 W (by omega)) (fun W => has56_w _ 98 W (by omega)) (fun W => has56_w _ 107 W (by omega)) (fun W => has56_w _ 112 W (by omega)) (fun W => has56_w _ 113 W (by omega))
      (fun W => refmay_w x.spec W hok.spec) x.mayB ?_
    rw [hp, hm, Bool.not_not]
  · have hm : x.mayB = false := by
      unfold Cm.mayB
      by_cases h1 : 1 ≤ x.kind
      · rw [decide_eq_false (p := x.kind ≤ 14) (by omega)]; simp
      · rw [decide_eq_false h1]; simp
    rw [hm]
    exact out20_w x.kind x.cells w rfl (by omega)
end Go.Proofs.Ytoflehlkacofjaa
