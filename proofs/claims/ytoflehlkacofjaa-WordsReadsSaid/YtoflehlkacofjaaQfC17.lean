/- A reply, read by the document: the walk. -/
import Derived.Test.YtoflehlkacofjaaQfC16
import Derived.Deep.RegionLaw
namespace Go.Proofs.Ytoflehlkacofjaa
open Go.ChangeShapes Go.WideShapes Go.ChangeAt Go.RowKit
set_option linter.unusedVariables false
/-- A call of a Go function, as one step of a region that draws. -/
theorem step_enter {P : Program} {ops : Array Oper} {o : Oper} {a : Act} {w : World} {K : Act → World → Prop} {Q : Exit → Act → World → Prop} {E : Prop} (hg : o.guard = none) (f : FuncId) {fn : Func} (hf : P.funcs[f]? = some fn) (hn : (fn.name == "runtime.NumGoroutine") = false) (hb : fn.body.isNone = false) (az : Array Operand) (ts : Array TypeId)
    (hop : o.op = .call { callee := .value (.func f), args := az, argTypes := ts }) (args : Array Value) (hargs : az.map a.eval = args) {R : Ending → World → Prop} (hc : Calls P f args w R) (hK : ∀ e w', R e w' → ∃ v, e = .returned v ∧ K (a.put o.dst v) w') :
    if Region.wanted o (yielded ops a.tmps) = true then Oper.wp P o a w K Q else E := by
  have hw : Region.wanted o (yielded ops a.tmps) = true := by simp [Region.wanted, hg]
  rw [if_pos hw]
  subst hargs
  have hrun : (execOp a.eval o).run P w = .ok (.enter f (az.map a.eval)) w := by
    have hn' : ¬ fn.name = "runtime.NumGoroutine" := by simpa using hn
    have hb' : ¬ fn.body = none := fun e => by rw [e] at hb; cases hb
    unfold execOp
    simp [hop, resolve, invoke, Act.eval, Deferred.ofValue, callFunc, hf, hn', hb']
  unfold Oper.wp
  rw [hrun, Oper.upon_enter]
  refine Calls.mono hc fun e w' he => ?_
  obtain ⟨v, rfl, hk⟩ := hK e w' he
  exact hk
/-- append, its run known, as one step of a region that draws. -/
theorem step_append_eq {P : Program} {ops : Array Oper} {o : Oper} {a : Act} {w w' : World} {K : Act → World → Prop} {Q : Exit → Act → World → Prop} {E : Prop} (hg : o.guard = none) (s x : Operand) (t : TypeId)
    (hop : o.op = .call { callee := .builtin .append, args := #[s, x], argTypes := #[t, t] }) {v y v' : Value} (hs : a.eval s = v) (hx : a.eval x = y) (hr : (Builtin.append_ #[t, t] o.type #[v, y]).run P w = .ok v' w') (hK : K (a.put o.dst v') w') :
    if Region.wanted o (yielded ops a.tmps) = true then Oper.wp P o a w K Q else E := by
  have hw : Region.wanted o (yielded ops a.tmps) = true := by simp [Region.wanted, hg]
  rw [if_pos hw]
  unfold Oper.wp execOp
  simp only [hop, resolve, invoke, builtin, Sem.run_bind, Sem.run_pure, Result.andThen_ok, List.map_toArray, List.map_cons, List.map_nil, hs, hx, hr]
  exact hK
/-- A reply is being read by the document. -/
structure RG (w W : World) (b : List UInt8) (g N C : Nat) (a : Nat) (e : Int) (cs : Array Value) : Prop where
  at_ : RAt W g 92 b a e N
  c : RrAt W C cs
  z : RrAt W w.heap.size zR
  ha : a ≤ b.length
  hl : b.length ≤ 1000000
  nGC : g ≠ C
  hN : N ≤ w.heap.size
  lG : w.heap.size < g
  lC : w.heap.size < C
  below : Below w.heap.size w W
section
variable {w W W' : World} {b : List UInt8} {g N C a : Nat} {e : Int} {cs : Array Value}
theorem RG.at (h : RG w W b g N C a e cs) (i : Nat) : W.cell? ⟨C, i, none⟩ = cs[i]? := h.c.at i
theorem RG.thaw (h : RG w W b g N C a e cs) (i : Nat) : W.frozen? ⟨C, i, none⟩ = false := by
  have hb := h.c
  unfold RrAt at hb
  simp [World.frozen?, hb]
theorem RG.hg (h : RG w W b g N C a e cs) : N ≤ g := Nat.le_of_lt (Nat.lt_of_le_of_lt h.hN h.lG)
theorem RG.sz (h : RG w W b g N C a e cs) : g < W.heap.size ∧ C < W.heap.size := ⟨h.at_.lt, h.c.lt⟩
theorem RG.moved (h : RG w W b g N C a e cs) {a' : Nat} {e' : Int} (hm : RM W W' g 92 b a' e' N) (ha : a' ≤ b.length) : RG w W' b g N C a' e' cs := by
  obtain ⟨h1, h2⟩ := hm
  have hk : ∀ B, B ≠ g → ∀ x, W.heap[B]? = some x → W'.heap[B]? = some x := fun B hB x hx => by
    rw [h2.block B (Array.getElem?_eq_some_iff.1 hx).1 (by simpa using hB)]; exact hx
  exact ⟨h1, hk C (Ne.symm h.nGC) _ h.c, hk _ (by have := h.lG; omega) _ h.z, ha, h.hl, h.nGC, h.hN, h.lG, h.lC, h.below.grown h2 h.below.size (fun k e => by cases e; exact Nat.le_of_lt h.lG)⟩
theorem RG.set (h : RG w W b g N C a e cs) (i : Nat) (val : Value) : RG w (W.setCell ⟨C, i, none⟩ val) b g N C a e (cs.setIfInBounds i val) := by
  have hg := Lib.grownBy_setCell W C i val
  have hk : ∀ B, B ≠ C → ∀ x, W.heap[B]? = some x → (W.setCell ⟨C, i, none⟩ val).heap[B]? = some x := fun B hB x hx => by
    rw [hg.block B (Array.getElem?_eq_some_iff.1 hx).1 (by simpa using hB)]; exact hx
  refine ⟨h.at_.kept hg (Nat.le_trans h.hN (Nat.le_of_lt h.lC)) h.nGC, ?_, hk _ (by have := h.lC; omega) _ h.z, h.ha, h.hl, h.nGC, h.hN, h.lG, h.lC, h.below.grown hg h.below.size (fun k e => by cases e; exact Nat.le_of_lt h.lC)⟩
  have hb := h.c
  unfold RrAt at *
  simp only [World.setCell, Array.getElem?_modify, hb, if_true, Option.map_some]
  rfl
theorem RG.keep (h : RG w W b g N C a e cs) (hB : Below W.heap.size W W') : RG w W' b g N C a e cs :=
  ⟨h.at_.keeps hB.block, h.c.keeps hB.block, h.z.keeps hB.block, h.ha, h.hl, h.nGC, h.hN, h.lG, h.lC, h.below.trans (hB.mono h.below.size)⟩
theorem RG.alloc (h : RG w W b g N C a e cs) (o : Obj) : RG w (W.alloc o) b g N C a e cs := h.keep ((Below.refl _ _).alloc (Nat.le_refl _) o)
theorem RG.drew (h : RG w W b g N C a e cs) : RG w W.drew b g N C a e cs := ⟨h.at_.keeps (Keeps.refl W).drew, h.c, h.z, h.ha, h.hl, h.nGC, h.hN, h.lG, h.lC, h.below.drew⟩
/-- What grows elsewhere keeps it. -/
theorem RG.app (h : RG w W b g N C a e cs) {row : Option Nat} {base : Nat} (hg : W.grownBy W' row) (hr : ∀ k, row = some k → base ≤ k) (h1 : g < base) (h2 : C < base) : RG w W' b g N C a e cs := by
  have lg := h.lG
  have hk : ∀ B, B < base → ∀ x, W.heap[B]? = some x → W'.heap[B]? = some x := fun B hB x hx => by
    rw [hg.block B (Array.getElem?_eq_some_iff.1 hx).1 (fun e => by have := hr B e.symm; omega)]; exact hx
  have hat : RAt W' g 92 b a e N := by
    cases row with
    | none =>
      exact h.at_.keeps (show Keeps W W' from fun k hk => hg.block k hk (by simp))
    | some x =>
      have := hr x rfl
      exact h.at_.kept hg (by have := h.hN; omega) (by omega)
  exact ⟨hat, hk _ h2 _ h.c, hk _ (by omega) _ h.z, h.ha, h.hl, h.nGC, h.hN, h.lG, h.lC, h.below.grown hg h.below.size (fun k e => by have := hr k e; omega)⟩
theorem RG.result (h : RG w W b g N C a e cs) (ds : Array Value) : Below w.heap.size w (W.setRow w.heap.size ds) ∧ (W.setRow w.heap.size ds).heap[w.heap.size]? = some (.cells ds 36) ∧ ∀ {base : Nat} {t : TypeId} {c : Nat} {sv : Value} {n : Nat} {xs : List Value}, w.heap.size < base → W.ownsRow base t c sv n xs → (W.setRow w.heap.size ds).ownsRow base t c sv n xs := by
  have h1 : Below w.heap.size W (W.setRow w.heap.size ds) := ⟨rfl, rfl, rfl, by simp [World.setRow], fun k hk => setRow_other _ _ _ _ (by omega)⟩
  refine ⟨h.below.trans h1, setRow_heap _ _ _ _ _ _ h.z, fun hb ho => ?_⟩
  refine ⟨ho.1, ?_⟩
  rcases ho.2 with h2 | ⟨g, cap, cur, hv, hgb, hh, r⟩
  · exact .inl h2
  · exact .inr ⟨g, cap, cur, hv, hgb, by rw [setRow_other _ _ _ _ (by omega)]; exact hh, r⟩
end
/-- The relations of the document's reader. -/
def RdD (b : List UInt8) (x : Rp) (a : Nat) (e : Int) : Prop := RdRp b (RkRel (sTr b) b) (RkRel (s64 b) b) (RkRel (s32 b) b) x a e
theorem rk_ok {α : Type} {b : List UInt8} {step : Nat → Int → α × Nat × Int} {enc : α → List UInt8} {ok : α → Prop} (S : StepOf b step enc ok) {a : Nat} {e : Int} {l : List α} {a' : Nat} {e' : Int} (h : RkRel step b a e l a' e') : (∀ x ∈ l, ok x) ∧ l.length ≤ 4000 := by
  obtain ⟨k, hk, hl, _⟩ := h
  rw [hl]
  exact ⟨stN_ok S _ _ _, by rw [elN_len]; exact Nat.le_trans hk (small_top ..)⟩
theorem RdD.ok {b : List UInt8} {x : Rp} {a : Nat} {e : Int} (h : RdD b x a e) : x.ok := RdRp.ok_ h (fun h => rk_ok (sTr_of b) h) (fun h => rk_ok (s64_of b) h) (fun h => rk_ok (s32_of b) h)
theorem RdD.yes {b : List UInt8} {x : Rp} {a : Nat} {e : Int} (h : RdD b x a e) (ha : a ≤ b.length) (hd : Form.done b.length a e = 0) : RpOf b x := by
  obtain ⟨rfl, h2⟩ := done_zero hd
  obtain ⟨k1, k2⟩ := RdRp.yes h (by omega) (fun h => RkRel.good (sTr_of b) h) (fun h => RkRel.good (s64_of b) h) (fun h => RkRel.good (s32_of b) h)
  exact ⟨h.ok, k1, k2⟩
theorem RdD.no {b : List UInt8} {x : Rp} {a : Nat} {e : Int} (h : RdD b x a e) (hd : Form.done b.length a e ≠ 0) : RpNone b := by
  rintro y ⟨h1, h2, h3⟩
  obtain ⟨_, k2, k3⟩ := RdRp.of_form [] h h1 h2 (by rw [h3, List.append_nil]) (fun hok hl hd h => RkRel.form (sTr_of b) hok hl hd h) (fun hok hl hd h => RkRel.form (s64_of b) hok hl hd h) (fun hok hl hd h => RkRel.form (s32_of b) hok hl hd h)
  apply hd
  rw [k2, k3, h3]
  unfold Form.done
  rw [if_neg (by omega)]
theorem RG.end_yes {w W : World} {b : List UInt8} {g N C a : Nat} {e : Int} {tv gv av : Value} {x : Rp} {B1 B2 B3 : Nat} (h : RG w W b g N C a e (rpc x tv gv av)) (hx : RdD b x a e) (hd : Form.done b.length a e = 0)
    (h1 : W.ownsRow B1 62 4 tv x.trades.length (x.trades.flatMap Tr.cells)) (h2 : W.ownsRow B2 24 1 gv x.gone.length (x.gone.flatMap fun (n : Nat) => [Value.int .u64 (n : Int)])) (h3 : W.ownsRow B3 23 1 av x.accounts.length (x.accounts.flatMap fun (n : Nat) => [Value.int .u32 (n : Int)]))
    (l1 : w.heap.size < B1) (l2 : w.heap.size < B2) (l3 : w.heap.size < B3) : RpAns w b (.returned (.tuple #[.agg (rpc x tv gv av), .int .i64 0])) (W.setRow w.heap.size (rpc x tv gv av)) := by
  obtain ⟨k1, _, k3⟩ := h.result (rpc x tv gv av)
  exact ⟨.inl ⟨x, tv, gv, av, rfl, ⟨own_rdc (k3 l1 h1), rdn_of (k3 l2 h2), rdn_of (k3 l3 h3), hx.ok⟩, hx.yes h.ha hd⟩, k1⟩
theorem RG.end_no {w W : World} {b : List UInt8} {g N C a : Nat} {e : Int} {cs : Array Value} {x : Rp} (h : RG w W b g N C a e cs) (hx : RdD b x a e) (hd : Form.done b.length a e ≠ 0) : RpAns w b (.returned (.tuple #[.agg zR, .int .i64 5])) (W.setRow w.heap.size zR) :=
  ⟨.inr ⟨rfl, hx.no hd⟩, (h.result zR).1⟩
/-- What is read where the first number already failed: nothing. -/
theorem RdD.failed {b : List UInt8} {a : Nat} {e : Int} (h : Form.small b 0 0 999 = (0, a, e)) (he : e ≠ 0) : Form.done b.length a e ≠ 0 ∧ RpNone b := by
  have hb : ∀ most, Form.small b a e most = (0, a, e) := fun most => by unfold Form.small; rw [if_pos he]
  have hs : RdD b ⟨0, 0, 0, 0, [], [], []⟩ a e := by
    refine .inr ⟨by rw [h], 0, a, e, 0, a, e, 0, a, e, a, e, a, e, by rw [h]; exact hb _, hb _, hb _, ⟨0, Nat.zero_le _, by simp [elN], by rw [hb]; rfl, .inl (by rw [hb])⟩, ⟨0, Nat.zero_le _, by simp [elN], by rw [hb]; rfl, .inl (by rw [hb])⟩, ⟨0, Nat.zero_le _, by simp [elN], by rw [hb]; rfl, .inl (by rw [hb])⟩, rfl, rfl, rfl, rfl⟩
  have hd : Form.done b.length a e ≠ 0 := by
    intro h0
    exact he (done_zero h0).1
  exact ⟨hd, hs.no hd⟩
theorem ref_start36 {w : World} {v : Value} {b : List UInt8} (hb : RdB w v b) : RAt ((w.alloc (.cells zR 36)).alloc (.cells #[v, .int .i64 0] 92)) (w.heap.size + 1) 92 b 0 0 w.heap.size := by
  refine ⟨v, ?_, ?_, fun x hx => hb.off hx⟩
  · unfold RRd
    have := heap_alloc_new (w.alloc (.cells zR 36)) (.cells #[v, .int .i64 0] 92)
    rw [heap_alloc_size] at this
    exact this
  · rw [List.drop_zero]
    exact (hb.keeps ((Keeps.refl w).alloc _)).keeps ((Keeps.refl _).alloc _)
theorem RG.begin {w W1 : World} {v : Value} {b : List UInt8} {n a : Nat} {e : Int} (hb : RdB w v b) (hl : b.length ≤ 1000000)
    (hm : RM ((w.alloc (.cells zR 36)).alloc (.cells #[v, .int .i64 0] 92)) W1 (w.heap.size + 1) 92 b a e w.heap.size) (hs : Form.small b 0 0 999 = (n, a, e)) (cs : Array Value) :
    RG w (W1.alloc (.cells cs 36)) b (w.heap.size + 1) w.heap.size W1.heap.size a e cs := by
  obtain ⟨h1, h2⟩ := hm
  have hsz := h2.size
  simp only [heap_alloc_size] at hsz
  have hB3 : Below w.heap.size w ((w.alloc (.cells zR 36)).alloc (.cells #[v, .int .i64 0] 92)) := ((Below.refl w.heap.size w).alloc (Nat.le_refl _) _).alloc (by rw [heap_alloc_size]; omega) _
  have hB : Below w.heap.size w W1 := hB3.grown h2 hB3.size (fun k e => by cases e; omega)
  have ha : a ≤ b.length := by have := small_at (b := b) (a := 0) (e := 0) (most := 999) (Nat.zero_le _); rw [hs] at this; exact this
  have o2 : ((w.alloc (.cells zR 36)).alloc (.cells #[v, .int .i64 0] 92)).heap[w.heap.size]? = some (.cells zR 36) := by
    rw [Below.heap_alloc _ _ _ (by simp only [heap_alloc_size]; omega)]
    exact heap_alloc_new w _
  have k2 : W1.heap[w.heap.size]? = some (.cells zR 36) := by
    rw [h2.block _ (Array.getElem?_eq_some_iff.1 o2).1 (by simp)]; exact o2
  have hk : Keeps W1 (W1.alloc (.cells cs 36)) := (Keeps.refl W1).alloc _
  exact ⟨h1.keeps hk, RrAt.new W1 cs, (hk _ (Array.getElem?_eq_some_iff.1 k2).1).trans k2, ha, hl, by omega, Nat.le_refl _, by omega, by omega, hB.alloc hB.size _⟩
/-- A trade is being read. -/
structure TJ (w wr X : World) (b : List UInt8) (g N C : Nat) (a : Nat) (e : Int) (cs0 cs : Array Value) : Prop where
  r : RG w X b g N C a e cs0
  z : ZAt X wr.heap.size cs
  gr : wr.grownBy X (some g)
  hg : g < wr.heap.size
  hC : C < wr.heap.size
section
variable {w wr X X' : World} {b : List UInt8} {g N C a : Nat} {e : Int} {cs0 cs : Array Value}
theorem TJ.start (h : RG w wr b g N C a e cs0) (cs : Array Value) : TJ w wr (wr.alloc (.cells cs 62)) b g N C a e cs0 cs := ⟨h.alloc _, ZAt.new wr cs, World.grownBy_alloc wr _ _, h.sz.1, h.sz.2⟩
theorem TJ.moved (h : TJ w wr X b g N C a e cs0 cs) {a' : Nat} {e' : Int} (hm : RM X X' g 92 b a' e' N) (ha : a' ≤ b.length) : TJ w wr X' b g N C a' e' cs0 cs :=
  ⟨h.r.moved hm ha, h.z.other hm.grown (by have := h.hg; omega), h.gr.trans hm.grown, h.hg, h.hC⟩
theorem TJ.set (h : TJ w wr X b g N C a e cs0 cs) (i : Nat) (x : Value) : TJ w wr (X.setCell ⟨wr.heap.size, i, none⟩ x) b g N C a e cs0 (cs.setIfInBounds i x) := by
  have k := Lib.grownBy_setCell X wr.heap.size i x
  refine ⟨h.r.app k (base := wr.heap.size) (fun j e => by cases e; exact Nat.le_refl _) h.hg h.hC, h.z.set i x, ⟨k.os.trans h.gr.os, k.tape.trans h.gr.tape, k.output.trans h.gr.output, Nat.le_trans h.gr.size k.size, fun j hj hne => ?_⟩, h.hg, h.hC⟩
  rw [k.block j (Nat.lt_of_lt_of_le hj h.gr.size) (by simp; omega), h.gr.block j hj hne]
end
theorem own_app {W W' : World} {base B2 : Nat} {e : TypeId} {c : Nat} {v : Value} {n : Nat} {xs : List Value} (h : W.ownsRow base e c v n xs) (hlt : ∀ k, v.ownBlock = some k → k < B2) {row : Option Nat} (hg : W.grownBy W' row) (hr : ∀ k, row = some k → B2 ≤ k) : W'.ownsRow base e c v n xs := by
  refine ⟨h.1, ?_⟩
  rcases h.2 with h2 | ⟨g, cap, cur, hv, hgb, hh, r⟩
  · exact .inl h2
  · refine .inr ⟨g, cap, cur, hv, hgb, ?_, r⟩
    rw [hg.block g (Array.getElem?_eq_some_iff.1 hh).1 (fun e => by
      have h1 := hr g e.symm
      have h2 := hlt g (by rw [hv]; rfl)
      omega)]
    exact hh

set_option maxRecDepth 100000 in
set_option maxHeartbeats 51200000 in
theorem refread24_err_w (v : Value) (b : List UInt8) (w : World) (hb : RdB w v b) (hl : b.length ≤ 1000000) (k : Nat) (hkd : (Form.small b 0 0 999).1 = k) (hk0 : k ≠ 0) : Calls Try.prog 24 #[v] w (RpAns w b) := by
  have hk9 : k ≤ 999 := by rw [← hkd]; exact small_top b 0 0 999
  have hke : ((k : Int) == 0) = false := by simp; omega
  obtain ⟨p, c, rfl⟩ := hb.form_
  have HBv := Lib.hid hb
  have HSt := Lib.hid (ref_start36 hb)
  have Hl := Lib.hid hl
  obtain ⟨zc, hzc⟩ : ∃ zc, zR = zc := ⟨_, rfl⟩
  have hz := hz36
  rw [hzc] at hz HSt
  have hzs : zc.size = 7 := by rw [← hzc]; rfl
  have HZo := Lib.hid (show zc.all (·.oneCell') = true by rw [← hzc]; exact zR_one)
  have Hzc := Lib.hid hzc
  clear hzc hb
  have Hkd := Lib.hid hkd
  have hwk : IntKind.i64.wrap (k : Int) = (k : Int) := IntWalk.i64_in _ (by omega)
  obtain ⟨kc, hkc⟩ : ∃ kc, kR k = kc := ⟨_, rfl⟩
  have hks : kc.size = 7 := by rw [← hkc]; rfl
  have HK1 := Lib.hid (show kc.all (·.oneCell') = true by rw [← hkc]; unfold kR; simp [Value.oneCell'])
  have HK0 := Lib.hid (show kc[0]? = some (.int .i64 (k : Int)) by rw [← hkc]; rfl)
  have Hkc := Lib.hid hkc
  clear hkc hkd
  go_enter Try.func24, Try.ntmps24
  go_upto_region 3 with (first
    | (refine wpList_alloc_zero rfl 36 rfl _ hz ?_)
    | (go_at_call 65; (with_reducible refine (refsmall_z (w.heap.size + 1) 92 b 0 0 w.heap.size 999 999 rfl _ HSt.out (Nat.le_succ _) (Nat.zero_le _) hl (by decide)).mono ?_); rintro r w2 ⟨n0, a0, e0, hs, rfl, hm⟩; have HS := Lib.hid hs; have HM := Lib.hid hm; obtain rfl : n0 = k := (by have h := Hkd.out; rw [hs] at h; exact h); clear hs hm)
    | (refine wpList_plain_value (v := .agg kc) rfl (by rw [← Hkc.out]; exact exec_build36 n0 (.tmp 16) rfl rfl) ?_)
    | (refine wpList_store_rowTo rfl 36 (.tmp 5) (.tmp 17) rfl rfl _ kc rfl rfl 36 zc (heap_alloc_new w2 _) (show _ = some kc.size by rw [hks]; kernel_rfl) (by rw [hks, hzs]) HK1.out ?_))
  rw [alloc_setRow]
  have HC0 := Lib.hid (show RG w (w2.alloc (.cells kc 36)) b (w.heap.size + 1) w.heap.size w2.heap.size a0 e0 kc from RG.begin HBv.out Hl.out (by rw [Hzc.out]; exact HM.out) HS.out kc)
  obtain ⟨W0, hW0⟩ : ∃ W0, w2.alloc (.cells kc 36) = W0 := ⟨_, rfl⟩
  rw [hW0] at HC0
  rw [hW0]
  obtain ⟨C, hC⟩ : ∃ C, w2.heap.size = C := ⟨_, rfl⟩
  rw [hC] at HC0
  rw [hC]
  obtain ⟨g, hg⟩ : ∃ g, w.heap.size + 1 = g := ⟨_, rfl⟩
  rw [hg] at HC0
  rw [hg]
  have HgC := Lib.hid (show g < C from by rw [← hC, ← hg]; exact HM.out.at_.lt)
  clear hW0 hC hg HSt HM
  have x0 := (HC0.out.at 0).trans HK0.out
  have ce := HC0.out.at_.cell1
  have HX := Lib.hid (show RdD b ⟨(n0 : Int), 0, 0, 0, [], [], []⟩ a0 e0 from by
    unfold RdD RdRp
    rw [HS.out]
    exact .inl ⟨hk0, rfl, rfl⟩)
  obtain ⟨d, hd⟩ : ∃ d, Form.done b.length a0 e0 = d := ⟨_, rfl⟩
  have HD := Lib.hid hd
  have HDn := Lib.hid (fun W (h : RG w W b g w.heap.size C a0 e0 kc) => (show Calls Try.prog 70 #[.pointer (some ⟨g, 0, none⟩)] W fun r w' => r = .returned (.int .i64 d) ∧ Below W.heap.size W w' from by rw [← hd]; exact (refrdone_w g 92 b a0 e0 w.heap.size W h.at_ h.ha h.hl).mono fun e w' ⟨h1, h2⟩ => ⟨h1, by subst h2; exact Below.refl _ _⟩))
  clear hd
  clear hk0
  by_cases h0 : d = 0
  · subst h0
    go_wp2_with (first
      | (go_at_call 70; (with_reducible refine (HDn.out _ HC0.out).mono ?_); rintro r w8 ⟨rfl, hB⟩; have HC8 := Lib.hid (HC0.out.keep hB); clear hB)
      | (refine wpList_load_rr rfl (.tmp 5) rfl rfl HC8.out.c hks ?_)
      | (refine wpList_store_rowTo rfl 36 (.tmp 2) (.tmp 117) rfl rfl _ kc rfl rfl 36 zc (by rw [← Hzc.out]; exact HC8.out.z) (show _ = some kc.size by rw [hks]; kernel_rfl) (by rw [hks, hzs]) HK1.out ?_))
    obtain ⟨hend, hres, _⟩ := HC8.out.result kc
    refine bodyPost_ret (v := .tuple #[.agg kc, .int .i64 0]) (results_cell_tmp rfl _ _ w.heap.size 36 _ _ _ _ rfl rfl hres rfl Try.underlying36 (show _ = some kc.size by rw [hks]; kernel_rfl)) rfl ?_
    have hE := HC8.out
    have hkk : kc = rpc ⟨(n0 : Int), 0, 0, 0, [], [], []⟩ (.slice none 0 0) (.slice none 0 0) (.slice none 0 0) := Hkc.out.symm
    rw [hkk] at hE ⊢
    exact RG.end_yes hE HX.out HD.out (own_none _ _ _ _) (own_none _ _ _ _) (own_none _ _ _ _) (Nat.lt_succ_self _) (Nat.lt_succ_self _) (Nat.lt_succ_self _)
  · have hdn : (d != 0) = true := by simpa using h0
    have HD0 := Lib.hid (show Form.done b.length a0 e0 ≠ 0 from by rw [HD.out]; exact h0)
    clear h0
    go_wp2_with (first
      | (go_at_call 70; (with_reducible refine (HDn.out _ HC0.out).mono ?_); rintro r w8 ⟨rfl, hB⟩; have HC8 := Lib.hid (HC0.out.keep hB); clear hB)
      | (refine wpList_plain_value (v := .agg zc) rfl (by rw [← Hzc.out]; exact exec_build36e rfl) ?_)
      | (refine wpList_store_rowTo rfl 36 (.tmp 2) (.tmp 116) rfl rfl _ zc rfl rfl 36 zc (by rw [← Hzc.out]; exact HC8.out.z) (show _ = some zc.size by rw [hzs]; kernel_rfl) rfl HZo.out ?_))
    obtain ⟨hend, hres, _⟩ := HC8.out.result zc
    refine bodyPost_ret (v := .tuple #[.agg zc, .int .i64 5]) (results_cell_tmp rfl _ _ w.heap.size 36 _ _ _ _ rfl rfl hres rfl Try.underlying36 (show _ = some zc.size by rw [hzs]; kernel_rfl)) rfl ?_
    have hE : RpAns w b (.returned (.tuple #[.agg zR, .int .i64 5])) _ := RG.end_no HC8.out HX.out HD0.out
    rw [Hzc.out] at hE
    exact hE

set_option maxRecDepth 100000 in
set_option maxHeartbeats 51200000 in
theorem refread24_bad_w (v : Value) (b : List UInt8) (w : World) (hb : RdB w v b) (hl : b.length ≤ 1000000) (hkd : (Form.small b 0 0 999).1 = 0) (hbad : (Form.small b 0 0 999).2.2 ≠ 0) : Calls Try.prog 24 #[v] w (RpAns w b) := by
  have HBad := Lib.hid hbad
  clear hbad
  obtain ⟨p, c, rfl⟩ := hb.form_
  have HBv := Lib.hid hb
  have HSt := Lib.hid (ref_start36 hb)
  have Hl := Lib.hid hl
  obtain ⟨zc, hzc⟩ : ∃ zc, zR = zc := ⟨_, rfl⟩
  have hz := hz36
  rw [hzc] at hz HSt
  have hzs : zc.size = 7 := by rw [← hzc]; rfl
  have HZo := Lib.hid (show zc.all (·.oneCell') = true by rw [← hzc]; exact zR_one)
  have Hzc := Lib.hid hzc
  clear hzc hb
  have Hkd := Lib.hid hkd
  have hwk : True := trivial
  obtain ⟨kc, hkc⟩ : ∃ kc, kR 0 = kc := ⟨_, rfl⟩
  have hks : kc.size = 7 := by rw [← hkc]; rfl
  have HK1 := Lib.hid (show kc.all (·.oneCell') = true by rw [← hkc]; unfold kR; simp [Value.oneCell'])
  have HK0 := Lib.hid (show kc[0]? = some (.int .i64 (0 : Int)) by rw [← hkc]; rfl)
  have Hkc := Lib.hid hkc
  clear hkc hkd
  go_enter Try.func24, Try.ntmps24
  go_upto_region 3 with (first
    | (refine wpList_alloc_zero rfl 36 rfl _ hz ?_)
    | (go_at_call 65; (with_reducible refine (refsmall_z (w.heap.size + 1) 92 b 0 0 w.heap.size 999 999 rfl _ HSt.out (Nat.le_succ _) (Nat.zero_le _) hl (by decide)).mono ?_); rintro r w2 ⟨n0, a0, e0, hs, rfl, hm⟩; have HS := Lib.hid hs; have HM := Lib.hid hm; obtain rfl : n0 = 0 := (by have h := Hkd.out; rw [hs] at h; exact h); clear hs hm)
    | (refine wpList_plain_value (v := .agg kc) rfl (by rw [← Hkc.out]; exact exec_build36 0 (.tmp 16) rfl rfl) ?_)
    | (refine wpList_store_rowTo rfl 36 (.tmp 5) (.tmp 17) rfl rfl _ kc rfl rfl 36 zc (heap_alloc_new w2 _) (show _ = some kc.size by rw [hks]; kernel_rfl) (by rw [hks, hzs]) HK1.out ?_))
  rw [alloc_setRow]
  have HC0 := Lib.hid (show RG w (w2.alloc (.cells kc 36)) b (w.heap.size + 1) w.heap.size w2.heap.size a0 e0 kc from RG.begin HBv.out Hl.out (by rw [Hzc.out]; exact HM.out) HS.out kc)
  obtain ⟨W0, hW0⟩ : ∃ W0, w2.alloc (.cells kc 36) = W0 := ⟨_, rfl⟩
  rw [hW0] at HC0
  rw [hW0]
  obtain ⟨C, hC⟩ : ∃ C, w2.heap.size = C := ⟨_, rfl⟩
  rw [hC] at HC0
  rw [hC]
  obtain ⟨g, hg⟩ : ∃ g, w.heap.size + 1 = g := ⟨_, rfl⟩
  rw [hg] at HC0
  rw [hg]
  have HgC := Lib.hid (show g < C from by rw [← hC, ← hg]; exact HM.out.at_.lt)
  clear hW0 hC hg HSt HM
  have x0 := (HC0.out.at 0).trans HK0.out
  have ce := HC0.out.at_.cell1
  have he0 : e0 ≠ 0 := by have h := HBad.out; rw [HS.out] at h; exact h
  have HDx := Lib.hid (RdD.failed HS.out he0)
  have hee : (e0 == 0) = false := by simpa using he0
  clear he0
  obtain ⟨d, hd⟩ : ∃ d, Form.done b.length a0 e0 = d := ⟨_, rfl⟩
  have HD := Lib.hid hd
  have HDn := Lib.hid (fun W (h : RG w W b g w.heap.size C a0 e0 kc) => (show Calls Try.prog 70 #[.pointer (some ⟨g, 0, none⟩)] W fun r w' => r = .returned (.int .i64 d) ∧ Below W.heap.size W w' from by rw [← hd]; exact (refrdone_w g 92 b a0 e0 w.heap.size W h.at_ h.ha h.hl).mono fun e w' ⟨h1, h2⟩ => ⟨h1, by subst h2; exact Below.refl _ _⟩))
  clear hd
  have hdn : (d != 0) = true := by have h := HDx.out.1; rw [HD.out] at h; simpa using h
  go_wp2_with (first
    | (go_at_call 70; (with_reducible refine (HDn.out _ HC0.out).mono ?_); rintro r w8 ⟨rfl, hB⟩; have HC8 := Lib.hid (HC0.out.keep hB); clear hB)
    | (refine wpList_plain_value (v := .agg zc) rfl (by rw [← Hzc.out]; exact exec_build36e rfl) ?_)
    | (refine wpList_store_rowTo rfl 36 (.tmp 2) (.tmp 116) rfl rfl _ zc rfl rfl 36 zc (by rw [← Hzc.out]; exact HC8.out.z) (show _ = some zc.size by rw [hzs]; kernel_rfl) rfl HZo.out ?_))
  obtain ⟨hend, hres, _⟩ := HC8.out.result zc
  refine bodyPost_ret (v := .tuple #[.agg zc, .int .i64 5]) (results_cell_tmp rfl _ _ w.heap.size 36 _ _ _ _ rfl rfl hres rfl Try.underlying36 (show _ = some zc.size by rw [hzs]; kernel_rfl)) rfl ?_
  have hE : RpAns w b (.returned (.tuple #[.agg zR, .int .i64 5])) _ := ⟨.inr ⟨rfl, HDx.out.2⟩, (HC8.out.result zR).1⟩
  rw [Hzc.out] at hE
  exact hE

set_option maxRecDepth 100000 in
set_option maxHeartbeats 51200000 in
theorem refread24_ok_w (v : Value) (b : List UInt8) (w : World) (hb : RdB w v b) (hl : b.length ≤ 1000000) (hkd : (Form.small b 0 0 999).1 = 0) (hgood : (Form.small b 0 0 999).2.2 = 0) : Calls Try.prog 24 #[v] w (RpAns w b) := by
  have HGood := Lib.hid hgood
  clear hgood
  obtain ⟨p, c, rfl⟩ := hb.form_
  have HBv := Lib.hid hb
  have HSt := Lib.hid (ref_start36 hb)
  have Hl := Lib.hid hl
  obtain ⟨zc, hzc⟩ : ∃ zc, zR = zc := ⟨_, rfl⟩
  have hz := hz36
  rw [hzc] at hz HSt
  have hzs : zc.size = 7 := by rw [← hzc]; rfl
  have HZo := Lib.hid (show zc.all (·.oneCell') = true by rw [← hzc]; exact zR_one)
  have Hzc := Lib.hid hzc
  clear hzc hb
  have Hkd := Lib.hid hkd
  have hwk : True := trivial
  obtain ⟨kc, hkc⟩ : ∃ kc, kR 0 = kc := ⟨_, rfl⟩
  have hks : kc.size = 7 := by rw [← hkc]; rfl
  have HK1 := Lib.hid (show kc.all (·.oneCell') = true by rw [← hkc]; unfold kR; simp [Value.oneCell'])
  have HK0 := Lib.hid (show kc[0]? = some (.int .i64 (0 : Int)) by rw [← hkc]; rfl)
  have Hkc := Lib.hid hkc
  clear hkc hkd
  go_enter Try.func24, Try.ntmps24
  go_upto_region 3 with (first
    | (refine wpList_alloc_zero rfl 36 rfl _ hz ?_)
    | (go_at_call 65; (with_reducible refine (refsmall_z (w.heap.size + 1) 92 b 0 0 w.heap.size 999 999 rfl _ HSt.out (Nat.le_succ _) (Nat.zero_le _) hl (by decide)).mono ?_); rintro r w2 ⟨n0, a0, e0, hs, rfl, hm⟩; have HS := Lib.hid hs; have HM := Lib.hid hm; obtain rfl : n0 = 0 := (by have h := Hkd.out; rw [hs] at h; exact h); clear hs hm)
    | (refine wpList_plain_value (v := .agg kc) rfl (by rw [← Hkc.out]; exact exec_build36 0 (.tmp 16) rfl rfl) ?_)
    | (refine wpList_store_rowTo rfl 36 (.tmp 5) (.tmp 17) rfl rfl _ kc rfl rfl 36 zc (heap_alloc_new w2 _) (show _ = some kc.size by rw [hks]; kernel_rfl) (by rw [hks, hzs]) HK1.out ?_))
  rw [alloc_setRow]
  have HC0 := Lib.hid (show RG w (w2.alloc (.cells kc 36)) b (w.heap.size + 1) w.heap.size w2.heap.size a0 e0 kc from RG.begin HBv.out Hl.out (by rw [Hzc.out]; exact HM.out) HS.out kc)
  obtain ⟨W0, hW0⟩ : ∃ W0, w2.alloc (.cells kc 36) = W0 := ⟨_, rfl⟩
  rw [hW0] at HC0
  rw [hW0]
  obtain ⟨C, hC⟩ : ∃ C, w2.heap.size = C := ⟨_, rfl⟩
  rw [hC] at HC0
  rw [hC]
  obtain ⟨g, hg⟩ : ∃ g, w.heap.size + 1 = g := ⟨_, rfl⟩
  rw [hg] at HC0
  rw [hg]
  have HgC := Lib.hid (show g < C from by rw [← hC, ← hg]; exact HM.out.at_.lt)
  clear hW0 hC hg HSt HM
  have x0 := (HC0.out.at 0).trans HK0.out
  have ce := HC0.out.at_.cell1
  obtain rfl : e0 = 0 := by have h := HGood.out; rw [HS.out] at h; exact h
  have Kall := Lib.hid (show kc = #[.int .i64 0, .int .u64 0, .int .i64 0, .int .i64 0, .slice none 0 0, .slice none 0 0, .slice none 0 0] from Hkc.out.symm)
  rw [Kall.out] at HC0
  clear HGood
  go_upto_region 7 with (first
    | (go_at_call 66; (with_reducible refine (refrnat_w g 92 b a0 0 w.heap.size _ HC0.out.at_ HC0.out.hg HC0.out.ha HC0.out.hl).mono ?_); rintro r y1 ⟨n1, a1, e1, hs, rfl, hm⟩; have HS1 := Lib.hid (show s64 b a0 0 = (n1, a1, e1) from hs); have HT1 := Lib.hid (HC0.out.moved hm (by have := s64_at (e := 0) HC0.out.ha; rw [HS1.out] at this; exact this)); have c1 := HT1.out.at 1; have f1 := HT1.out.thaw 1; have HP1 := Lib.hid (show RG w (y1.setCell ⟨C, 1, none⟩ (.int .u64 (n1 : Int))) b g w.heap.size C a1 e1 #[.int .i64 0, .int .u64 (n1 : Int), .int .i64 0, .int .i64 0, .slice none 0 0, .slice none 0 0, .slice none 0 0] from HT1.out.set 1 (.int .u64 (n1 : Int))); clear hs hm)
    | (go_at_call 67; (with_reducible refine (refrint_w g 92 b a1 e1 w.heap.size _ HP1.out.at_ HP1.out.hg HP1.out.ha HP1.out.hl).mono ?_); rintro r y2 ⟨n2, a2, e2, hs, rfl, hm⟩; have HS2 := Lib.hid (show s64 b a1 e1 = (n2, a2, e2) from hs); have HT2 := Lib.hid (HP1.out.moved hm (by have := s64_at (e := e1) HP1.out.ha; rw [HS2.out] at this; exact this)); have c2 := HT2.out.at 2; have f2 := HT2.out.thaw 2; have HP2 := Lib.hid (show RG w (y2.setCell ⟨C, 2, none⟩ (.int .i64 (Form.unfold_ n2))) b g w.heap.size C a2 e2 #[.int .i64 0, .int .u64 (n1 : Int), .int .i64 (Form.unfold_ n2), .int .i64 0, .slice none 0 0, .slice none 0 0, .slice none 0 0] from HT2.out.set 2 (.int .i64 (Form.unfold_ n2))); clear hs hm)
    | (go_at_call 67; (with_reducible refine (refrint_w g 92 b a2 e2 w.heap.size _ HP2.out.at_ HP2.out.hg HP2.out.ha HP2.out.hl).mono ?_); rintro r y3 ⟨n3, a3, e3, hs, rfl, hm⟩; have HS3 := Lib.hid (show s64 b a2 e2 = (n3, a3, e3) from hs); have HT3 := Lib.hid (HP2.out.moved hm (by have := s64_at (e := e2) HP2.out.ha; rw [HS3.out] at this; exact this)); have c3 := HT3.out.at 3; have f3 := HT3.out.thaw 3; have HP3 := Lib.hid (show RG w (y3.setCell ⟨C, 3, none⟩ (.int .i64 (Form.unfold_ n3))) b g w.heap.size C a3 e3 #[.int .i64 0, .int .u64 (n1 : Int), .int .i64 (Form.unfold_ n2), .int .i64 (Form.unfold_ n3), .slice none 0 0, .slice none 0 0, .slice none 0 0] from HT3.out.set 3 (.int .i64 (Form.unfold_ n3))); clear hs hm))
  obtain ⟨W4, hW4⟩ : ∃ W4, (y3.setCell ⟨C, 3, none⟩ (.int .i64 (Form.unfold_ n3))) = W4 := ⟨_, rfl⟩
  rw [hW4] at HP3
  rw [hW4]
  clear hW4 c1 c2 c3 f1 f2 f3 x0 ce
  have Htop1 := Lib.hid (small_top b a3 e3 4000)
  go_upto_region 8 with (go_at_call 65; (with_reducible refine (refsmall_z g 92 b a3 e3 w.heap.size 4000 4000 rfl _ HP3.out.at_ HP3.out.hg HP3.out.ha HP3.out.hl (by decide)).mono ?_); rintro r u1 ⟨n, q1, f1, hs, rfl, hm⟩; have HSm1 := Lib.hid hs; have HL := Lib.hid (HP3.out.moved hm (by have := small_at (e := e3) (most := 4000) HP3.out.ha; rw [HSm1.out] at this; exact this)); clear hs hm)
  have hn4 : n ≤ 4000 := by have h := Htop1.out; rw [HSm1.out] at h; exact h
  obtain ⟨B1, hB1⟩ : ∃ B, u1.heap.size = B := ⟨_, rfl⟩
  have HCB1 := Lib.hid (show C < B1 from by rw [← hB1]; exact HL.out.sz.2)
  have HBu := Lib.hid (show B1 ≤ u1.heap.size from Nat.le_of_eq hB1.symm)
  clear hB1
  go_wp2
  go_loopw [7] (fun ix wr1 => ∃ (kt : Nat) (pt : Option Addr) (ct : Nat), kt ≤ n ∧ ix = .int .u64 (kt : Int) ∧ Hid (RG w wr1 b g w.heap.size C (stN (sTr b) q1 f1 kt).1 (stN (sTr b) q1 f1 kt).2 #[.int .i64 0, .int .u64 (n1 : Int), .int .i64 (Form.unfold_ n2), .int .i64 (Form.unfold_ n3), .slice pt kt ct, .slice none 0 0, .slice none 0 0]) ∧ Hid (B1 ≤ wr1.heap.size) ∧ Hid (wr1.ownsRow B1 62 4 (.slice pt kt ct) kt ((elN (sTr b) q1 f1 kt).flatMap Tr.cells))) (fun ix _ => n - (intOf ix).toNat)
  case atStart => exact ⟨0, none, 0, Nat.zero_le _, rfl, HL, HBu, Lib.hid (own_none _ _ _ _)⟩
  case round =>
    clear HL HBu
    obtain ⟨kt, pt, ct, hk, rfl, HI, HBu, HO1⟩ := hrel
    obtain ⟨st, hst⟩ : ∃ st, stN (sTr b) q1 f1 kt = st := ⟨_, rfl⟩
    obtain ⟨ak1, ek1⟩ := st
    rw [hst] at HI
    have Hst := Lib.hid hst
    clear hst
    dsimp only at HI
    have ce := HI.out.at_.cell1
    by_cases hlt : kt < n
    · by_cases he : ek1 = 0
      · subst he
        have HA := Lib.hid (TJ.start HI.out #[.int .i64 0, .int .i64 0, .int .u64 0, .int .u32 0])
        have x4 := HI.out.at 4
        clear x4
        go_upto_region 16 with (first
          | (go_at_call 67; (with_reducible refine (refrint_w g 92 b ak1 0 w.heap.size _ HA.out.r.at_ HA.out.r.hg HA.out.r.ha HA.out.r.hl).mono ?_); rintro r x1 ⟨m1, j1, l1, hs, rfl, hm⟩; have HSt1 := Lib.hid (show s64 b ak1 0 = (m1, j1, l1) from hs); have HX1 := Lib.hid (HA.out.moved hm (by have := s64_at (e := 0) HA.out.r.ha; rw [HSt1.out] at this; exact this)); have z1 := HX1.out.z.cc 0; have g1 := HX1.out.z.f 0; have HY1 := Lib.hid (show TJ w wr (x1.setCell ⟨wr.heap.size, 0, none⟩ (.int .i64 (Form.unfold_ m1))) b g w.heap.size C j1 l1 _ #[.int .i64 (Form.unfold_ m1), .int .i64 0, .int .u64 0, .int .u32 0] from HX1.out.set 0 (.int .i64 (Form.unfold_ m1))); clear hs hm)
          | (go_at_call 67; (with_reducible refine (refrint_w g 92 b j1 l1 w.heap.size _ HY1.out.r.at_ HY1.out.r.hg HY1.out.r.ha HY1.out.r.hl).mono ?_); rintro r x2 ⟨m2, j2, l2, hs, rfl, hm⟩; have HSt2 := Lib.hid (show s64 b j1 l1 = (m2, j2, l2) from hs); have HX2 := Lib.hid (HY1.out.moved hm (by have := s64_at (e := l1) HY1.out.r.ha; rw [HSt2.out] at this; exact this)); have z2 := HX2.out.z.cc 1; have g2 := HX2.out.z.f 1; have HY2 := Lib.hid (show TJ w wr (x2.setCell ⟨wr.heap.size, 1, none⟩ (.int .i64 (Form.unfold_ m2))) b g w.heap.size C j2 l2 _ #[.int .i64 (Form.unfold_ m1), .int .i64 (Form.unfold_ m2), .int .u64 0, .int .u32 0] from HX2.out.set 1 (.int .i64 (Form.unfold_ m2))); clear hs hm)
          | (go_at_call 66; (with_reducible refine (refrnat_w g 92 b j2 l2 w.heap.size _ HY2.out.r.at_ HY2.out.r.hg HY2.out.r.ha HY2.out.r.hl).mono ?_); rintro r x3 ⟨m3, j3, l3, hs, rfl, hm⟩; have HSt3 := Lib.hid (show s64 b j2 l2 = (m3, j3, l3) from hs); have HX3 := Lib.hid (HY2.out.moved hm (by have := s64_at (e := l2) HY2.out.r.ha; rw [HSt3.out] at this; exact this)); have z3 := HX3.out.z.cc 2; have g3 := HX3.out.z.f 2; have HY3 := Lib.hid (show TJ w wr (x3.setCell ⟨wr.heap.size, 2, none⟩ (.int .u64 (m3 : Int))) b g w.heap.size C j3 l3 _ #[.int .i64 (Form.unfold_ m1), .int .i64 (Form.unfold_ m2), .int .u64 (m3 : Int), .int .u32 0] from HX3.out.set 2 (.int .u64 (m3 : Int))); clear hs hm)
          | (go_at_call 65; (with_reducible refine (refsmall_z g 92 b j3 l3 w.heap.size 4294967295 4294967295 rfl _ HY3.out.r.at_ HY3.out.r.hg HY3.out.r.ha HY3.out.r.hl (by decide)).mono ?_); rintro r x4 ⟨m4, j4, l4, hs, rfl, hm⟩; have HSt4 := Lib.hid (show s32 b j3 l3 = (m4, j4, l4) from hs); have hm4 : m4 ≤ 4294967295 := (by have h := s32_lt b j3 l3; rw [HSt4.out] at h; simp only at h; omega); have hw4 : IntKind.u32.wrap (m4 : Int) = (m4 : Int) := IntWalk.u32_in _ (by omega); have HX4 := Lib.hid (HY3.out.moved hm (by have := s32_at (e := l3) HY3.out.r.ha; rw [HSt4.out] at this; exact this)); have z4 := HX4.out.z.cc 3; have g4 := HX4.out.z.f 3; have HY4 := Lib.hid (show TJ w wr (x4.setCell ⟨wr.heap.size, 3, none⟩ (.int .u32 (m4 : Int))) b g w.heap.size C j4 l4 _ #[.int .i64 (Form.unfold_ m1), .int .i64 (Form.unfold_ m2), .int .u64 (m3 : Int), .int .u32 (m4 : Int)] from HX4.out.set 3 (.int .u32 (m4 : Int))); clear hs hm))
        obtain ⟨X4, hX4⟩ : ∃ X4, (x4.setCell ⟨wr.heap.size, 3, none⟩ (.int .u32 (m4 : Int))) = X4 := ⟨_, rfl⟩
        rw [hX4] at HY4
        rw [hX4]
        clear hX4 z1 z2 z3 z4 g1 g2 g3 g4
        have yc := HY4.out.r.at 4
        have HE := Lib.hid (show sTr b ak1 0 = (⟨Form.unfold_ m1, Form.unfold_ m2, m3, m4⟩, j4, l4) from by
          unfold sTr
          simp only [HSt1.out, HSt2.out, HSt3.out, HSt4.out])
        have HO4 := Lib.hid (own_moved HO1.out HY4.out.gr (Nat.lt_trans HgC.out HCB1.out))
        have HOa := Lib.hid (own_keeps HO4.out ((Keeps.refl _).alloc (.cells #[.int .i64 (Form.unfold_ m1), .int .i64 (Form.unfold_ m2), .int .u64 (m3 : Int), .int .u32 (m4 : Int)] 62)))
        have HRa := Lib.hid (HY4.out.r.alloc (.cells #[.int .i64 (Form.unfold_ m1), .int .i64 (Form.unfold_ m2), .int .u64 (m3 : Int), .int .u32 (m4 : Int)] 62))
        have HSr := Lib.hid (one_src (c := 4) (heap_alloc_new X4 (.cells #[.int .i64 (Form.unfold_ m1), .int .i64 (Form.unfold_ m2), .int .u64 (m3 : Int), .int .u32 (m4 : Int)] 62)) rfl (by simp [Value.oneCell']))
        have HBa := Lib.hid (show B1 ≤ (X4.alloc (.cells #[.int .i64 (Form.unfold_ m1), .int .i64 (Form.unfold_ m2), .int .u64 (m3 : Int), .int .u32 (m4 : Int)] 62)).heap.size from Nat.le_trans HBu.out (Nat.le_trans HY4.out.gr.size (by rw [heap_alloc_size]; omega)))
        have hkn : kt ≤ 100000 := by omega
        go_wp2_with (first
          | (refine wpList_load_row rfl 62 (.tmp 8) rfl _ rfl _ _ _ _ HY4.out.z Try.underlying62 rfl (show _ = some 4 by kernel_rfl) ?_)
          | (at_builtin; refine wpList_append_one2 rfl _ _ 32 rfl he32 HOa.out (by rfl) HSr.out (by rfl) hkn (by decide) HBa.out ?_; intro p9 c9 x9 ho hg; have HR9 := Lib.hid (HRa.out.app hg (base := B1) (fun j e => (HOa.out.lt j e).1) (Nat.lt_trans HgC.out HCB1.out) HCB1.out); have y9 := HR9.out.at 4; have v9 := HR9.out.thaw 4; have HO9 := Lib.hid ho; have HB9 := Lib.hid (Nat.le_trans HBa.out hg.size); clear ho hg))
        go_roundw
        case rel =>
          have hs1 : stN (sTr b) q1 f1 (kt + 1) = (j4, l4) := by show (sTr b (stN (sTr b) q1 f1 kt).1 (stN (sTr b) q1 f1 kt).2).2 = _; rw [Hst.out]; show (sTr b ak1 0).2 = _; rw [HE.out]
          refine ⟨kt + 1, p9, c9, hlt, by go_num, ?_, ?_, ?_⟩
          · rw [hs1]; exact Lib.hid (HR9.out.set 4 (.slice p9 (kt + 1) c9))
          · exact Lib.hid (Nat.le_trans HB9.out (Lib.grownBy_setCell x9 C 4 _).size)
          · refine Lib.hid ?_
            rw [elN_succ, List.flatMap_append]
            have hx : (sTr b (stN (sTr b) q1 f1 kt).1 (stN (sTr b) q1 f1 kt).2).1 = ⟨Form.unfold_ m1, Form.unfold_ m2, m3, m4⟩ := by rw [Hst.out]; show (sTr b ak1 0).1 = _; rw [HE.out]
            rw [hx]
            simp only [List.flatMap_cons, List.flatMap_nil, List.append_nil]
            exact own_moved HO9.out (Lib.grownBy_setCell x9 C 4 _) HCB1.out
        case measure => simp [intOf]; omega
      · have hee : (ek1 == 0) = false := by simpa using he
        have HRk1 := Lib.hid (show RkRel (sTr b) b a3 e3 (elN (sTr b) q1 f1 kt) ak1 ek1 from ⟨kt, by rw [HSm1.out]; exact hk, by rw [HSm1.out], by rw [HSm1.out]; exact Hst.out.symm, .inr he⟩)
        clear he Hst
        clear HBu
        have Htop2 := Lib.hid (small_top b ak1 ek1 4000)
        go_upto_region 18 with (go_at_call 65; (with_reducible refine (refsmall_z g 92 b ak1 ek1 w.heap.size 4000 4000 rfl _ HI.out.at_ HI.out.hg HI.out.ha HI.out.hl (by decide)).mono ?_); rintro r u2 ⟨n, q2, f2, hs, rfl, hm⟩; have HSm2 := Lib.hid hs; have HL := Lib.hid (HI.out.moved hm (by have := small_at (e := ek1) (most := 4000) HI.out.ha; rw [HSm2.out] at this; exact this)); have HO1 := Lib.hid (own_moved HO1.out hm.grown (Nat.lt_trans HgC.out HCB1.out)); clear hs hm)
        have hn4 : n ≤ 4000 := by have h := Htop2.out; rw [HSm2.out] at h; exact h
        clear ce
        obtain ⟨B2, hB2⟩ : ∃ B, u2.heap.size = B := ⟨_, rfl⟩
        have HCB2 := Lib.hid (show C < B2 from by rw [← hB2]; exact HL.out.sz.2)
        have Hlt12 := Lib.hid (show ∀ x, (Value.slice pt kt ct).ownBlock = some x → x < B2 from fun x e => by rw [← hB2]; exact (HO1.out.lt x e).2)
        have HBu := Lib.hid (show B2 ≤ u2.heap.size from Nat.le_of_eq hB2.symm)
        clear hB2
        go_wp2
        go_loopw [9] (fun ix wr2 => ∃ (kg : Nat) (pg : Option Addr) (cg : Nat), kg ≤ n ∧ ix = .int .u64 (kg : Int) ∧ Hid (RG w wr2 b g w.heap.size C (stN (s64 b) q2 f2 kg).1 (stN (s64 b) q2 f2 kg).2 #[.int .i64 0, .int .u64 (n1 : Int), .int .i64 (Form.unfold_ n2), .int .i64 (Form.unfold_ n3), .slice pt kt ct, .slice pg kg cg, .slice none 0 0]) ∧ Hid (B2 ≤ wr2.heap.size) ∧ Hid (wr2.ownsRow B2 24 1 (.slice pg kg cg) kg ((elN (s64 b) q2 f2 kg).flatMap (fun (n : Nat) => [Value.int .u64 (n : Int)]))) ∧ Hid (wr2.ownsRow B1 62 4 (.slice pt kt ct) kt ((elN (sTr b) q1 f1 kt).flatMap Tr.cells))) (fun ix _ => n - (intOf ix).toNat)
        case atStart => exact ⟨0, none, 0, Nat.zero_le _, rfl, HL, HBu, Lib.hid (own_none _ _ _ _), HO1⟩
        case round =>
          clear HL HBu HO1
          obtain ⟨kg, pg, cg, hk, rfl, HI, HBu, HO2, HO1⟩ := hrel
          obtain ⟨st, hst⟩ : ∃ st, stN (s64 b) q2 f2 kg = st := ⟨_, rfl⟩
          obtain ⟨ak2, ek2⟩ := st
          rw [hst] at HI
          have Hst := Lib.hid hst
          clear hst
          dsimp only at HI
          have ce := HI.out.at_.cell1
          by_cases hlt : kg < n
          · by_cases he : ek2 = 0
            · subst he
              have HNd := Lib.hid HI.out.drew
              have xc := HI.out.at 5
              have HOd := Lib.hid (own_keeps HO2.out (Keeps.refl wr).drew)
              have HOd1 := Lib.hid (own_keeps HO1.out (Keeps.refl wr).drew)
              go_wp2_with fail
              go_region_law (first
                | (refine step_enter rfl 66 Try.func66 (by kernel_rfl) (by kernel_rfl) _ _ rfl #[.pointer (some ⟨g, 0, none⟩)] (by simp [Act.eval, Act.put]) (refrnat_w g 92 b ak2 0 w.heap.size _ HNd.out.at_ HNd.out.hg HNd.out.ha HNd.out.hl) ?_; (rintro r x6 ⟨m, j4, l4, hs, rfl, hm⟩; have HSt := Lib.hid (show s64 b ak2 0 = (m, j4, l4) from hs); have HR6 := Lib.hid (HNd.out.moved hm (by have := s64_at (e := 0) HNd.out.ha; rw [HSt.out] at this; exact this)); have x6c := HR6.out.at 5; have x6d := (HR6.out.alloc (.cells #[.int .u64 (m : Int)] 24)).at 5; have HO6 := Lib.hid (own_keeps (own_moved HOd.out hm.grown (Nat.lt_trans HgC.out HCB2.out)) ((Keeps.refl x6).alloc (.cells #[.int .u64 (m : Int)] 24))); have HB6 := Lib.hid (show B2 ≤ (x6.alloc (.cells #[.int .u64 (m : Int)] 24)).heap.size from Nat.le_trans HBu.out (Nat.le_trans hm.grown.size (by rw [heap_alloc_size]; omega))); obtain ⟨v9, x9, hr9, ho9, hg9⟩ := run_append_src (P := Try.prog) (ty := 33) he33 HO6.out (one_src (c := 1) (heap_alloc_new x6 (.cells #[.int .u64 (m : Int)] 24)) rfl (by simp [Value.oneCell'])) (by unfold maxLen; omega) (by omega) HB6.out; obtain ⟨p9, c9, rfl⟩ := own_form ho9; have Hr9 := Lib.hid hr9; have HO9 := Lib.hid ho9; have HR9 := Lib.hid ((HR6.out.alloc (.cells #[.int .u64 (m : Int)] 24)).app hg9 (base := B2) (fun j e => (HO6.out.lt j e).1) (Nat.lt_trans HgC.out HCB2.out) HCB2.out); have y9 := HR9.out.at 5; have v9 := HR9.out.thaw 5; have HB9 := Lib.hid (Nat.le_trans HB6.out hg9.size); have HQ1 := Lib.hid (own_app (own_keeps (own_moved HOd1.out hm.grown (Nat.lt_trans HgC.out HCB1.out)) ((Keeps.refl x6).alloc (.cells #[.int .u64 (m : Int)] 24))) Hlt12.out hg9 (fun j e => (HO6.out.lt j e).1)); clear hs hm hr9 ho9 hg9; refine ⟨_, rfl, ?_⟩))
                | (refine step_append_eq rfl (.tmp 85) (.tmp 88) 33 rfl (v := .slice pg kg cg) (y := .slice (some ⟨x6.heap.size, 0, none⟩) 1 1) (by simp [Act.eval]) (by simp [Act.eval]) Hr9.out ?_))
              all_goals
                go_wp2
                go_roundw
                case rel =>
                  have hs1 : stN (s64 b) q2 f2 (kg + 1) = (j4, l4) := by show (s64 b (stN (s64 b) q2 f2 kg).1 (stN (s64 b) q2 f2 kg).2).2 = _; rw [Hst.out]; show (s64 b ak2 0).2 = _; rw [HSt.out]
                  refine ⟨kg + 1, p9, c9, hlt, by go_num, ?_, ?_, ?_, ?_⟩
                  · rw [hs1]; exact Lib.hid (HR9.out.set 5 (.slice p9 (kg + 1) c9))
                  · exact Lib.hid (Nat.le_trans HB9.out (Lib.grownBy_setCell x9 C 5 _).size)
                  · refine Lib.hid ?_
                    rw [elN_succ, List.flatMap_append]
                    have hx : (s64 b (stN (s64 b) q2 f2 kg).1 (stN (s64 b) q2 f2 kg).2).1 = m := by rw [Hst.out]; show (s64 b ak2 0).1 = _; rw [HSt.out]
                    rw [hx]
                    simp only [List.flatMap_cons, List.flatMap_nil, List.append_nil]
                    exact own_moved HO9.out (Lib.grownBy_setCell x9 C 5 _) HCB2.out
                  · exact Lib.hid (own_moved HQ1.out (Lib.grownBy_setCell x9 C 5 _) HCB1.out)
                case measure => simp [intOf]; omega
            · have hee : (ek2 == 0) = false := by simpa using he
              have HRk2 := Lib.hid (show RkRel (s64 b) b ak1 ek1 (elN (s64 b) q2 f2 kg) ak2 ek2 from ⟨kg, by rw [HSm2.out]; exact hk, by rw [HSm2.out], by rw [HSm2.out]; exact Hst.out.symm, .inr he⟩)
              clear he Hst
              clear HBu
              have Htop3 := Lib.hid (small_top b ak2 ek2 4000)
              go_upto_region 23 with (go_at_call 65; (with_reducible refine (refsmall_z g 92 b ak2 ek2 w.heap.size 4000 4000 rfl _ HI.out.at_ HI.out.hg HI.out.ha HI.out.hl (by decide)).mono ?_); rintro r u3 ⟨n, q3, f3, hs, rfl, hm⟩; have HSm3 := Lib.hid hs; have HL := Lib.hid (HI.out.moved hm (by have := small_at (e := ek2) (most := 4000) HI.out.ha; rw [HSm3.out] at this; exact this)); have HO1 := Lib.hid (own_moved HO1.out hm.grown (Nat.lt_trans HgC.out HCB1.out)); have HO2 := Lib.hid (own_moved HO2.out hm.grown (Nat.lt_trans HgC.out HCB2.out)); clear hs hm)
              have hn4 : n ≤ 4000 := by have h := Htop3.out; rw [HSm3.out] at h; exact h
              clear ce
              obtain ⟨B3, hB3⟩ : ∃ B, u3.heap.size = B := ⟨_, rfl⟩
              have HCB3 := Lib.hid (show C < B3 from by rw [← hB3]; exact HL.out.sz.2)
              have Hlt13 := Lib.hid (show ∀ x, (Value.slice pt kt ct).ownBlock = some x → x < B3 from fun x e => by rw [← hB3]; exact (HO1.out.lt x e).2)
              have Hlt23 := Lib.hid (show ∀ x, (Value.slice pg kg cg).ownBlock = some x → x < B3 from fun x e => by rw [← hB3]; exact (HO2.out.lt x e).2)
              have HBu := Lib.hid (show B3 ≤ u3.heap.size from Nat.le_of_eq hB3.symm)
              clear hB3
              go_wp2
              go_loopw [10] (fun ix wr3 => ∃ (kz : Nat) (pz : Option Addr) (cz : Nat), kz ≤ n ∧ ix = .int .u64 (kz : Int) ∧ Hid (RG w wr3 b g w.heap.size C (stN (s32 b) q3 f3 kz).1 (stN (s32 b) q3 f3 kz).2 #[.int .i64 0, .int .u64 (n1 : Int), .int .i64 (Form.unfold_ n2), .int .i64 (Form.unfold_ n3), .slice pt kt ct, .slice pg kg cg, .slice pz kz cz]) ∧ Hid (B3 ≤ wr3.heap.size) ∧ Hid (wr3.ownsRow B3 23 1 (.slice pz kz cz) kz ((elN (s32 b) q3 f3 kz).flatMap (fun (n : Nat) => [Value.int .u32 (n : Int)]))) ∧ Hid (wr3.ownsRow B1 62 4 (.slice pt kt ct) kt ((elN (sTr b) q1 f1 kt).flatMap Tr.cells)) ∧ Hid (wr3.ownsRow B2 24 1 (.slice pg kg cg) kg ((elN (s64 b) q2 f2 kg).flatMap (fun (n : Nat) => [Value.int .u64 (n : Int)])))) (fun ix _ => n - (intOf ix).toNat)
              case atStart => exact ⟨0, none, 0, Nat.zero_le _, rfl, HL, HBu, Lib.hid (own_none _ _ _ _), HO1, HO2⟩
              case round =>
                clear HL HBu HO1 HO2
                obtain ⟨kz, pz, cz, hk, rfl, HI, HBu, HO3, HO1, HO2⟩ := hrel
                obtain ⟨st, hst⟩ : ∃ st, stN (s32 b) q3 f3 kz = st := ⟨_, rfl⟩
                obtain ⟨ak3, ek3⟩ := st
                rw [hst] at HI
                have Hst := Lib.hid hst
                clear hst
                dsimp only at HI
                have ce := HI.out.at_.cell1
                by_cases hlt : kz < n
                · by_cases he : ek3 = 0
                  · subst he
                    have HNd := Lib.hid HI.out.drew
                    have xc := HI.out.at 6
                    have HOd := Lib.hid (own_keeps HO3.out (Keeps.refl wr).drew)
                    have HOd1 := Lib.hid (own_keeps HO1.out (Keeps.refl wr).drew)
                    have HOd2 := Lib.hid (own_keeps HO2.out (Keeps.refl wr).drew)
                    go_wp2_with fail
                    go_region_law (first
                      | (refine step_enter rfl 65 Try.func65 (by kernel_rfl) (by kernel_rfl) _ _ rfl #[.pointer (some ⟨g, 0, none⟩), .int .u64 4294967295] (by simp [Act.eval, Act.put]) (refsmall_z g 92 b ak3 0 w.heap.size 4294967295 4294967295 rfl _ HNd.out.at_ HNd.out.hg HNd.out.ha HNd.out.hl (by decide)) ?_; (rintro r x6 ⟨m, j4, l4, hs, rfl, hm⟩; have HSt := Lib.hid (show s32 b ak3 0 = (m, j4, l4) from hs); have hm4 : m ≤ 4294967295 := (by have h := s32_lt b ak3 0; rw [HSt.out] at h; simp only at h; omega); have hw4 : IntKind.u32.wrap (m : Int) = (m : Int) := IntWalk.u32_in _ (by omega); have HR6 := Lib.hid (HNd.out.moved hm (by have := s32_at (e := 0) HNd.out.ha; rw [HSt.out] at this; exact this)); have x6c := HR6.out.at 6; have x6d := (HR6.out.alloc (.cells #[.int .u32 (m : Int)] 23)).at 6; have HO6 := Lib.hid (own_keeps (own_moved HOd.out hm.grown (Nat.lt_trans HgC.out HCB3.out)) ((Keeps.refl x6).alloc (.cells #[.int .u32 (m : Int)] 23))); have HB6 := Lib.hid (show B3 ≤ (x6.alloc (.cells #[.int .u32 (m : Int)] 23)).heap.size from Nat.le_trans HBu.out (Nat.le_trans hm.grown.size (by rw [heap_alloc_size]; omega))); obtain ⟨v9, x9, hr9, ho9, hg9⟩ := run_append_src (P := Try.prog) (ty := 34) he34 HO6.out (one_src (c := 1) (heap_alloc_new x6 (.cells #[.int .u32 (m : Int)] 23)) rfl (by simp [Value.oneCell'])) (by unfold maxLen; omega) (by omega) HB6.out; obtain ⟨p9, c9, rfl⟩ := own_form ho9; have Hr9 := Lib.hid hr9; have HO9 := Lib.hid ho9; have HR9 := Lib.hid ((HR6.out.alloc (.cells #[.int .u32 (m : Int)] 23)).app hg9 (base := B3) (fun j e => (HO6.out.lt j e).1) (Nat.lt_trans HgC.out HCB3.out) HCB3.out); have y9 := HR9.out.at 6; have v9 := HR9.out.thaw 6; have HB9 := Lib.hid (Nat.le_trans HB6.out hg9.size); have HQ1 := Lib.hid (own_app (own_keeps (own_moved HOd1.out hm.grown (Nat.lt_trans HgC.out HCB1.out)) ((Keeps.refl x6).alloc (.cells #[.int .u32 (m : Int)] 23))) Hlt13.out hg9 (fun j e => (HO6.out.lt j e).1)); have HQ2 := Lib.hid (own_app (own_keeps (own_moved HOd2.out hm.grown (Nat.lt_trans HgC.out HCB2.out)) ((Keeps.refl x6).alloc (.cells #[.int .u32 (m : Int)] 23))) Hlt23.out hg9 (fun j e => (HO6.out.lt j e).1)); clear hs hm hr9 ho9 hg9; refine ⟨_, rfl, ?_⟩))
                      | (refine step_append_eq rfl (.tmp 106) (.tmp 110) 34 rfl (v := .slice pz kz cz) (y := .slice (some ⟨x6.heap.size, 0, none⟩) 1 1) (by simp [Act.eval]) (by simp [Act.eval]) Hr9.out ?_))
                    all_goals
                      go_wp2
                      go_roundw
                      case rel =>
                        have hs1 : stN (s32 b) q3 f3 (kz + 1) = (j4, l4) := by show (s32 b (stN (s32 b) q3 f3 kz).1 (stN (s32 b) q3 f3 kz).2).2 = _; rw [Hst.out]; show (s32 b ak3 0).2 = _; rw [HSt.out]
                        refine ⟨kz + 1, p9, c9, hlt, by go_num, ?_, ?_, ?_, ?_, ?_⟩
                        · rw [hs1]; exact Lib.hid (HR9.out.set 6 (.slice p9 (kz + 1) c9))
                        · exact Lib.hid (Nat.le_trans HB9.out (Lib.grownBy_setCell x9 C 6 _).size)
                        · refine Lib.hid ?_
                          rw [elN_succ, List.flatMap_append]
                          have hx : (s32 b (stN (s32 b) q3 f3 kz).1 (stN (s32 b) q3 f3 kz).2).1 = m := by rw [Hst.out]; show (s32 b ak3 0).1 = _; rw [HSt.out]
                          rw [hx]
                          simp only [List.flatMap_cons, List.flatMap_nil, List.append_nil]
                          exact own_moved HO9.out (Lib.grownBy_setCell x9 C 6 _) HCB3.out
                        · exact Lib.hid (own_moved HQ1.out (Lib.grownBy_setCell x9 C 6 _) HCB1.out)
                        · exact Lib.hid (own_moved HQ2.out (Lib.grownBy_setCell x9 C 6 _) HCB2.out)
                      case measure => simp [intOf]; omega
                  · have hee : (ek3 == 0) = false := by simpa using he
                    have HRk3 := Lib.hid (show RkRel (s32 b) b ak2 ek2 (elN (s32 b) q3 f3 kz) ak3 ek3 from ⟨kz, by rw [HSm3.out]; exact hk, by rw [HSm3.out], by rw [HSm3.out]; exact Hst.out.symm, .inr he⟩)
                    clear he Hst
                    have HX := Lib.hid (show RdD b ⟨0, n1, Form.unfold_ n2, Form.unfold_ n3, elN (sTr b) q1 f1 kt, elN (s64 b) q2 f2 kg, elN (s32 b) q3 f3 kz⟩ ak3 ek3 from by
                      unfold RdD RdRp
                      rw [HS.out]
                      exact .inr ⟨rfl, n1, a1, e1, n2, a2, e2, n3, a3, e3, ak1, ek1, ak2, ek2, HS1.out, HS2.out, HS3.out, HRk1.out, HRk2.out, HRk3.out, rfl, rfl, rfl, rfl⟩)
                    obtain ⟨cf, hcf⟩ : ∃ cf : Array Value, #[.int .i64 0, .int .u64 (n1 : Int), .int .i64 (Form.unfold_ n2), .int .i64 (Form.unfold_ n3), .slice pt kt ct, .slice pg kg cg, .slice pz kz cz] = cf := ⟨_, rfl⟩
                    rw [hcf] at HI
                    have hcs : cf.size = 7 := by rw [← hcf]; rfl
                    have HCo := Lib.hid (show cf.all (·.oneCell') = true by rw [← hcf]; simp [Value.oneCell'])
                    have Hcf := Lib.hid hcf
                    clear hcf
                    obtain ⟨d, hd⟩ : ∃ d, Form.done b.length ak3 ek3 = d := ⟨_, rfl⟩
                    have HD := Lib.hid hd
                    have HDn := Lib.hid (fun W (h : RG w W b g w.heap.size C ak3 ek3 cf) => (show Calls Try.prog 70 #[.pointer (some ⟨g, 0, none⟩)] W fun r w' => r = .returned (.int .i64 d) ∧ Below W.heap.size W w' from by rw [← hd]; exact (refrdone_w g 92 b ak3 ek3 w.heap.size W h.at_ h.ha h.hl).mono fun e w' ⟨h1, h2⟩ => ⟨h1, by subst h2; exact Below.refl _ _⟩))
                    clear hd
                    by_cases h0 : d = 0
                    · subst h0
                      go_wp2_with (first
                        | (go_at_call 70; (with_reducible refine (HDn.out _ HI.out).mono ?_); rintro r w8 ⟨rfl, hB⟩; have HC8 := Lib.hid (HI.out.keep hB); have HK8 := Lib.hid (show Keeps wr w8 from hB.block); clear hB)
                        | (refine wpList_load_rr rfl (.tmp 5) rfl rfl HC8.out.c hcs ?_)
                        | (refine wpList_store_rowTo rfl 36 (.tmp 2) (.tmp 117) rfl rfl _ cf rfl rfl 36 zc (by rw [← Hzc.out]; exact HC8.out.z) (show _ = some cf.size by rw [hcs]; kernel_rfl) (by rw [hcs, hzs]) HCo.out ?_))
                      obtain ⟨hend, hres, _⟩ := HC8.out.result cf
                      refine bodyPost_ret (v := .tuple #[.agg cf, .int .i64 0]) (results_cell_tmp rfl _ _ w.heap.size 36 _ _ _ _ rfl rfl hres rfl Try.underlying36 (show _ = some cf.size by rw [hcs]; kernel_rfl)) rfl ?_
                      have hE := HC8.out
                      rw [← Hcf.out] at hE ⊢
                      have b1 := Nat.lt_trans HI.out.lC HCB1.out
                      have b2 := Nat.lt_trans HI.out.lC HCB2.out
                      have b3 := Nat.lt_trans HI.out.lC HCB3.out
                      exact RG.end_yes hE HX.out HD.out (by rw [elN_len]; exact own_keeps HO1.out HK8.out) (by rw [elN_len]; exact own_keeps HO2.out HK8.out) (by rw [elN_len]; exact own_keeps HO3.out HK8.out) b1 b2 b3
                    · have hdn : (d != 0) = true := by simpa using h0
                      have HD0 := Lib.hid (show Form.done b.length ak3 ek3 ≠ 0 from by rw [HD.out]; exact h0)
                      clear h0
                      go_wp2_with (first
                        | (go_at_call 70; (with_reducible refine (HDn.out _ HI.out).mono ?_); rintro r w8 ⟨rfl, hB⟩; have HC8 := Lib.hid (HI.out.keep hB); clear hB)
                        | (refine wpList_plain_value (v := .agg zc) rfl (by rw [← Hzc.out]; exact exec_build36e rfl) ?_)
                        | (refine wpList_store_rowTo rfl 36 (.tmp 2) (.tmp 116) rfl rfl _ zc rfl rfl 36 zc (by rw [← Hzc.out]; exact HC8.out.z) (show _ = some zc.size by rw [hzs]; kernel_rfl) rfl HZo.out ?_))
                      obtain ⟨hend, hres, _⟩ := HC8.out.result zc
                      refine bodyPost_ret (v := .tuple #[.agg zc, .int .i64 5]) (results_cell_tmp rfl _ _ w.heap.size 36 _ _ _ _ rfl rfl hres rfl Try.underlying36 (show _ = some zc.size by rw [hzs]; kernel_rfl)) rfl ?_
                      have hE : RpAns w b (.returned (.tuple #[.agg zR, .int .i64 5])) _ := RG.end_no HC8.out HX.out HD0.out
                      rw [Hzc.out] at hE
                      exact hE
                · have hkn : kz = n := by omega
                  have HRk3 := Lib.hid (show RkRel (s32 b) b ak2 ek2 (elN (s32 b) q3 f3 kz) ak3 ek3 from ⟨kz, by rw [HSm3.out]; exact hk, by rw [HSm3.out], by rw [HSm3.out]; exact Hst.out.symm, .inl (by rw [HSm3.out]; exact hkn)⟩)
                  clear Hst hkn
                  have HX := Lib.hid (show RdD b ⟨0, n1, Form.unfold_ n2, Form.unfold_ n3, elN (sTr b) q1 f1 kt, elN (s64 b) q2 f2 kg, elN (s32 b) q3 f3 kz⟩ ak3 ek3 from by
                    unfold RdD RdRp
                    rw [HS.out]
                    exact .inr ⟨rfl, n1, a1, e1, n2, a2, e2, n3, a3, e3, ak1, ek1, ak2, ek2, HS1.out, HS2.out, HS3.out, HRk1.out, HRk2.out, HRk3.out, rfl, rfl, rfl, rfl⟩)
                  obtain ⟨cf, hcf⟩ : ∃ cf : Array Value, #[.int .i64 0, .int .u64 (n1 : Int), .int .i64 (Form.unfold_ n2), .int .i64 (Form.unfold_ n3), .slice pt kt ct, .slice pg kg cg, .slice pz kz cz] = cf := ⟨_, rfl⟩
                  rw [hcf] at HI
                  have hcs : cf.size = 7 := by rw [← hcf]; rfl
                  have HCo := Lib.hid (show cf.all (·.oneCell') = true by rw [← hcf]; simp [Value.oneCell'])
                  have Hcf := Lib.hid hcf
                  clear hcf
                  obtain ⟨d, hd⟩ : ∃ d, Form.done b.length ak3 ek3 = d := ⟨_, rfl⟩
                  have HD := Lib.hid hd
                  have HDn := Lib.hid (fun W (h : RG w W b g w.heap.size C ak3 ek3 cf) => (show Calls Try.prog 70 #[.pointer (some ⟨g, 0, none⟩)] W fun r w' => r = .returned (.int .i64 d) ∧ Below W.heap.size W w' from by rw [← hd]; exact (refrdone_w g 92 b ak3 ek3 w.heap.size W h.at_ h.ha h.hl).mono fun e w' ⟨h1, h2⟩ => ⟨h1, by subst h2; exact Below.refl _ _⟩))
                  clear hd
                  by_cases h0 : d = 0
                  · subst h0
                    go_wp2_with (first
                      | (go_at_call 70; (with_reducible refine (HDn.out _ HI.out).mono ?_); rintro r w8 ⟨rfl, hB⟩; have HC8 := Lib.hid (HI.out.keep hB); have HK8 := Lib.hid (show Keeps wr w8 from hB.block); clear hB)
                      | (refine wpList_load_rr rfl (.tmp 5) rfl rfl HC8.out.c hcs ?_)
                      | (refine wpList_store_rowTo rfl 36 (.tmp 2) (.tmp 117) rfl rfl _ cf rfl rfl 36 zc (by rw [← Hzc.out]; exact HC8.out.z) (show _ = some cf.size by rw [hcs]; kernel_rfl) (by rw [hcs, hzs]) HCo.out ?_))
                    obtain ⟨hend, hres, _⟩ := HC8.out.result cf
                    refine bodyPost_ret (v := .tuple #[.agg cf, .int .i64 0]) (results_cell_tmp rfl _ _ w.heap.size 36 _ _ _ _ rfl rfl hres rfl Try.underlying36 (show _ = some cf.size by rw [hcs]; kernel_rfl)) rfl ?_
                    have hE := HC8.out
                    rw [← Hcf.out] at hE ⊢
                    have b1 := Nat.lt_trans HI.out.lC HCB1.out
                    have b2 := Nat.lt_trans HI.out.lC HCB2.out
                    have b3 := Nat.lt_trans HI.out.lC HCB3.out
                    exact RG.end_yes hE HX.out HD.out (by rw [elN_len]; exact own_keeps HO1.out HK8.out) (by rw [elN_len]; exact own_keeps HO2.out HK8.out) (by rw [elN_len]; exact own_keeps HO3.out HK8.out) b1 b2 b3
                  · have hdn : (d != 0) = true := by simpa using h0
                    have HD0 := Lib.hid (show Form.done b.length ak3 ek3 ≠ 0 from by rw [HD.out]; exact h0)
                    clear h0
                    go_wp2_with (first
                      | (go_at_call 70; (with_reducible refine (HDn.out _ HI.out).mono ?_); rintro r w8 ⟨rfl, hB⟩; have HC8 := Lib.hid (HI.out.keep hB); clear hB)
                      | (refine wpList_plain_value (v := .agg zc) rfl (by rw [← Hzc.out]; exact exec_build36e rfl) ?_)
                      | (refine wpList_store_rowTo rfl 36 (.tmp 2) (.tmp 116) rfl rfl _ zc rfl rfl 36 zc (by rw [← Hzc.out]; exact HC8.out.z) (show _ = some zc.size by rw [hzs]; kernel_rfl) rfl HZo.out ?_))
                    obtain ⟨hend, hres, _⟩ := HC8.out.result zc
                    refine bodyPost_ret (v := .tuple #[.agg zc, .int .i64 5]) (results_cell_tmp rfl _ _ w.heap.size 36 _ _ _ _ rfl rfl hres rfl Try.underlying36 (show _ = some zc.size by rw [hzs]; kernel_rfl)) rfl ?_
                    have hE : RpAns w b (.returned (.tuple #[.agg zR, .int .i64 5])) _ := RG.end_no HC8.out HX.out HD0.out
                    rw [Hzc.out] at hE
                    exact hE
          · have hkn : kg = n := by omega
            have HRk2 := Lib.hid (show RkRel (s64 b) b ak1 ek1 (elN (s64 b) q2 f2 kg) ak2 ek2 from ⟨kg, by rw [HSm2.out]; exact hk, by rw [HSm2.out], by rw [HSm2.out]; exact Hst.out.symm, .inl (by rw [HSm2.out]; exact hkn)⟩)
            clear Hst hkn
            clear HBu
            have Htop3 := Lib.hid (small_top b ak2 ek2 4000)
            go_upto_region 23 with (go_at_call 65; (with_reducible refine (refsmall_z g 92 b ak2 ek2 w.heap.size 4000 4000 rfl _ HI.out.at_ HI.out.hg HI.out.ha HI.out.hl (by decide)).mono ?_); rintro r u3 ⟨n, q3, f3, hs, rfl, hm⟩; have HSm3 := Lib.hid hs; have HL := Lib.hid (HI.out.moved hm (by have := small_at (e := ek2) (most := 4000) HI.out.ha; rw [HSm3.out] at this; exact this)); have HO1 := Lib.hid (own_moved HO1.out hm.grown (Nat.lt_trans HgC.out HCB1.out)); have HO2 := Lib.hid (own_moved HO2.out hm.grown (Nat.lt_trans HgC.out HCB2.out)); clear hs hm)
            have hn4 : n ≤ 4000 := by have h := Htop3.out; rw [HSm3.out] at h; exact h
            clear ce
            obtain ⟨B3, hB3⟩ : ∃ B, u3.heap.size = B := ⟨_, rfl⟩
            have HCB3 := Lib.hid (show C < B3 from by rw [← hB3]; exact HL.out.sz.2)
            have Hlt13 := Lib.hid (show ∀ x, (Value.slice pt kt ct).ownBlock = some x → x < B3 from fun x e => by rw [← hB3]; exact (HO1.out.lt x e).2)
            have Hlt23 := Lib.hid (show ∀ x, (Value.slice pg kg cg).ownBlock = some x → x < B3 from fun x e => by rw [← hB3]; exact (HO2.out.lt x e).2)
            have HBu := Lib.hid (show B3 ≤ u3.heap.size from Nat.le_of_eq hB3.symm)
            clear hB3
            go_wp2
            go_loopw [10] (fun ix wr3 => ∃ (kz : Nat) (pz : Option Addr) (cz : Nat), kz ≤ n ∧ ix = .int .u64 (kz : Int) ∧ Hid (RG w wr3 b g w.heap.size C (stN (s32 b) q3 f3 kz).1 (stN (s32 b) q3 f3 kz).2 #[.int .i64 0, .int .u64 (n1 : Int), .int .i64 (Form.unfold_ n2), .int .i64 (Form.unfold_ n3), .slice pt kt ct, .slice pg kg cg, .slice pz kz cz]) ∧ Hid (B3 ≤ wr3.heap.size) ∧ Hid (wr3.ownsRow B3 23 1 (.slice pz kz cz) kz ((elN (s32 b) q3 f3 kz).flatMap (fun (n : Nat) => [Value.int .u32 (n : Int)]))) ∧ Hid (wr3.ownsRow B1 62 4 (.slice pt kt ct) kt ((elN (sTr b) q1 f1 kt).flatMap Tr.cells)) ∧ Hid (wr3.ownsRow B2 24 1 (.slice pg kg cg) kg ((elN (s64 b) q2 f2 kg).flatMap (fun (n : Nat) => [Value.int .u64 (n : Int)])))) (fun ix _ => n - (intOf ix).toNat)
            case atStart => exact ⟨0, none, 0, Nat.zero_le _, rfl, HL, HBu, Lib.hid (own_none _ _ _ _), HO1, HO2⟩
            case round =>
              clear HL HBu HO1 HO2
              obtain ⟨kz, pz, cz, hk, rfl, HI, HBu, HO3, HO1, HO2⟩ := hrel
              obtain ⟨st, hst⟩ : ∃ st, stN (s32 b) q3 f3 kz = st := ⟨_, rfl⟩
              obtain ⟨ak3, ek3⟩ := st
              rw [hst] at HI
              have Hst := Lib.hid hst
              clear hst
              dsimp only at HI
              have ce := HI.out.at_.cell1
              by_cases hlt : kz < n
              · by_cases he : ek3 = 0
                · subst he
                  have HNd := Lib.hid HI.out.drew
                  have xc := HI.out.at 6
                  have HOd := Lib.hid (own_keeps HO3.out (Keeps.refl wr).drew)
                  have HOd1 := Lib.hid (own_keeps HO1.out (Keeps.refl wr).drew)
                  have HOd2 := Lib.hid (own_keeps HO2.out (Keeps.refl wr).drew)
                  go_wp2_with fail
                  go_region_law (first
                    | (refine step_enter rfl 65 Try.func65 (by kernel_rfl) (by kernel_rfl) _ _ rfl #[.pointer (some ⟨g, 0, none⟩), .int .u64 4294967295] (by simp [Act.eval, Act.put]) (refsmall_z g 92 b ak3 0 w.heap.size 4294967295 4294967295 rfl _ HNd.out.at_ HNd.out.hg HNd.out.ha HNd.out.hl (by decide)) ?_; (rintro r x6 ⟨m, j4, l4, hs, rfl, hm⟩; have HSt := Lib.hid (show s32 b ak3 0 = (m, j4, l4) from hs); have hm4 : m ≤ 4294967295 := (by have h := s32_lt b ak3 0; rw [HSt.out] at h; simp only at h; omega); have hw4 : IntKind.u32.wrap (m : Int) = (m : Int) := IntWalk.u32_in _ (by omega); have HR6 := Lib.hid (HNd.out.moved hm (by have := s32_at (e := 0) HNd.out.ha; rw [HSt.out] at this; exact this)); have x6c := HR6.out.at 6; have x6d := (HR6.out.alloc (.cells #[.int .u32 (m : Int)] 23)).at 6; have HO6 := Lib.hid (own_keeps (own_moved HOd.out hm.grown (Nat.lt_trans HgC.out HCB3.out)) ((Keeps.refl x6).alloc (.cells #[.int .u32 (m : Int)] 23))); have HB6 := Lib.hid (show B3 ≤ (x6.alloc (.cells #[.int .u32 (m : Int)] 23)).heap.size from Nat.le_trans HBu.out (Nat.le_trans hm.grown.size (by rw [heap_alloc_size]; omega))); obtain ⟨v9, x9, hr9, ho9, hg9⟩ := run_append_src (P := Try.prog) (ty := 34) he34 HO6.out (one_src (c := 1) (heap_alloc_new x6 (.cells #[.int .u32 (m : Int)] 23)) rfl (by simp [Value.oneCell'])) (by unfold maxLen; omega) (by omega) HB6.out; obtain ⟨p9, c9, rfl⟩ := own_form ho9; have Hr9 := Lib.hid hr9; have HO9 := Lib.hid ho9; have HR9 := Lib.hid ((HR6.out.alloc (.cells #[.int .u32 (m : Int)] 23)).app hg9 (base := B3) (fun j e => (HO6.out.lt j e).1) (Nat.lt_trans HgC.out HCB3.out) HCB3.out); have y9 := HR9.out.at 6; have v9 := HR9.out.thaw 6; have HB9 := Lib.hid (Nat.le_trans HB6.out hg9.size); have HQ1 := Lib.hid (own_app (own_keeps (own_moved HOd1.out hm.grown (Nat.lt_trans HgC.out HCB1.out)) ((Keeps.refl x6).alloc (.cells #[.int .u32 (m : Int)] 23))) Hlt13.out hg9 (fun j e => (HO6.out.lt j e).1)); have HQ2 := Lib.hid (own_app (own_keeps (own_moved HOd2.out hm.grown (Nat.lt_trans HgC.out HCB2.out)) ((Keeps.refl x6).alloc (.cells #[.int .u32 (m : Int)] 23))) Hlt23.out hg9 (fun j e => (HO6.out.lt j e).1)); clear hs hm hr9 ho9 hg9; refine ⟨_, rfl, ?_⟩))
                    | (refine step_append_eq rfl (.tmp 106) (.tmp 110) 34 rfl (v := .slice pz kz cz) (y := .slice (some ⟨x6.heap.size, 0, none⟩) 1 1) (by simp [Act.eval]) (by simp [Act.eval]) Hr9.out ?_))
                  all_goals
                    go_wp2
                    go_roundw
                    case rel =>
                      have hs1 : stN (s32 b) q3 f3 (kz + 1) = (j4, l4) := by show (s32 b (stN (s32 b) q3 f3 kz).1 (stN (s32 b) q3 f3 kz).2).2 = _; rw [Hst.out]; show (s32 b ak3 0).2 = _; rw [HSt.out]
                      refine ⟨kz + 1, p9, c9, hlt, by go_num, ?_, ?_, ?_, ?_, ?_⟩
                      · rw [hs1]; exact Lib.hid (HR9.out.set 6 (.slice p9 (kz + 1) c9))
                      · exact Lib.hid (Nat.le_trans HB9.out (Lib.grownBy_setCell x9 C 6 _).size)
                      · refine Lib.hid ?_
                        rw [elN_succ, List.flatMap_append]
                        have hx : (s32 b (stN (s32 b) q3 f3 kz).1 (stN (s32 b) q3 f3 kz).2).1 = m := by rw [Hst.out]; show (s32 b ak3 0).1 = _; rw [HSt.out]
                        rw [hx]
                        simp only [List.flatMap_cons, List.flatMap_nil, List.append_nil]
                        exact own_moved HO9.out (Lib.grownBy_setCell x9 C 6 _) HCB3.out
                      · exact Lib.hid (own_moved HQ1.out (Lib.grownBy_setCell x9 C 6 _) HCB1.out)
                      · exact Lib.hid (own_moved HQ2.out (Lib.grownBy_setCell x9 C 6 _) HCB2.out)
                    case measure => simp [intOf]; omega
                · have hee : (ek3 == 0) = false := by simpa using he
                  have HRk3 := Lib.hid (show RkRel (s32 b) b ak2 ek2 (elN (s32 b) q3 f3 kz) ak3 ek3 from ⟨kz, by rw [HSm3.out]; exact hk, by rw [HSm3.out], by rw [HSm3.out]; exact Hst.out.symm, .inr he⟩)
                  clear he Hst
                  have HX := Lib.hid (show RdD b ⟨0, n1, Form.unfold_ n2, Form.unfold_ n3, elN (sTr b) q1 f1 kt, elN (s64 b) q2 f2 kg, elN (s32 b) q3 f3 kz⟩ ak3 ek3 from by
                    unfold RdD RdRp
                    rw [HS.out]
                    exact .inr ⟨rfl, n1, a1, e1, n2, a2, e2, n3, a3, e3, ak1, ek1, ak2, ek2, HS1.out, HS2.out, HS3.out, HRk1.out, HRk2.out, HRk3.out, rfl, rfl, rfl, rfl⟩)
                  obtain ⟨cf, hcf⟩ : ∃ cf : Array Value, #[.int .i64 0, .int .u64 (n1 : Int), .int .i64 (Form.unfold_ n2), .int .i64 (Form.unfold_ n3), .slice pt kt ct, .slice pg kg cg, .slice pz kz cz] = cf := ⟨_, rfl⟩
                  rw [hcf] at HI
                  have hcs : cf.size = 7 := by rw [← hcf]; rfl
                  have HCo := Lib.hid (show cf.all (·.oneCell') = true by rw [← hcf]; simp [Value.oneCell'])
                  have Hcf := Lib.hid hcf
                  clear hcf
                  obtain ⟨d, hd⟩ : ∃ d, Form.done b.length ak3 ek3 = d := ⟨_, rfl⟩
                  have HD := Lib.hid hd
                  have HDn := Lib.hid (fun W (h : RG w W b g w.heap.size C ak3 ek3 cf) => (show Calls Try.prog 70 #[.pointer (some ⟨g, 0, none⟩)] W fun r w' => r = .returned (.int .i64 d) ∧ Below W.heap.size W w' from by rw [← hd]; exact (refrdone_w g 92 b ak3 ek3 w.heap.size W h.at_ h.ha h.hl).mono fun e w' ⟨h1, h2⟩ => ⟨h1, by subst h2; exact Below.refl _ _⟩))
                  clear hd
                  by_cases h0 : d = 0
                  · subst h0
                    go_wp2_with (first
                      | (go_at_call 70; (with_reducible refine (HDn.out _ HI.out).mono ?_); rintro r w8 ⟨rfl, hB⟩; have HC8 := Lib.hid (HI.out.keep hB); have HK8 := Lib.hid (show Keeps wr w8 from hB.block); clear hB)
                      | (refine wpList_load_rr rfl (.tmp 5) rfl rfl HC8.out.c hcs ?_)
                      | (refine wpList_store_rowTo rfl 36 (.tmp 2) (.tmp 117) rfl rfl _ cf rfl rfl 36 zc (by rw [← Hzc.out]; exact HC8.out.z) (show _ = some cf.size by rw [hcs]; kernel_rfl) (by rw [hcs, hzs]) HCo.out ?_))
                    obtain ⟨hend, hres, _⟩ := HC8.out.result cf
                    refine bodyPost_ret (v := .tuple #[.agg cf, .int .i64 0]) (results_cell_tmp rfl _ _ w.heap.size 36 _ _ _ _ rfl rfl hres rfl Try.underlying36 (show _ = some cf.size by rw [hcs]; kernel_rfl)) rfl ?_
                    have hE := HC8.out
                    rw [← Hcf.out] at hE ⊢
                    have b1 := Nat.lt_trans HI.out.lC HCB1.out
                    have b2 := Nat.lt_trans HI.out.lC HCB2.out
                    have b3 := Nat.lt_trans HI.out.lC HCB3.out
                    exact RG.end_yes hE HX.out HD.out (by rw [elN_len]; exact own_keeps HO1.out HK8.out) (by rw [elN_len]; exact own_keeps HO2.out HK8.out) (by rw [elN_len]; exact own_keeps HO3.out HK8.out) b1 b2 b3
                  · have hdn : (d != 0) = true := by simpa using h0
                    have HD0 := Lib.hid (show Form.done b.length ak3 ek3 ≠ 0 from by rw [HD.out]; exact h0)
                    clear h0
                    go_wp2_with (first
                      | (go_at_call 70; (with_reducible refine (HDn.out _ HI.out).mono ?_); rintro r w8 ⟨rfl, hB⟩; have HC8 := Lib.hid (HI.out.keep hB); clear hB)
                      | (refine wpList_plain_value (v := .agg zc) rfl (by rw [← Hzc.out]; exact exec_build36e rfl) ?_)
                      | (refine wpList_store_rowTo rfl 36 (.tmp 2) (.tmp 116) rfl rfl _ zc rfl rfl 36 zc (by rw [← Hzc.out]; exact HC8.out.z) (show _ = some zc.size by rw [hzs]; kernel_rfl) rfl HZo.out ?_))
                    obtain ⟨hend, hres, _⟩ := HC8.out.result zc
                    refine bodyPost_ret (v := .tuple #[.agg zc, .int .i64 5]) (results_cell_tmp rfl _ _ w.heap.size 36 _ _ _ _ rfl rfl hres rfl Try.underlying36 (show _ = some zc.size by rw [hzs]; kernel_rfl)) rfl ?_
                    have hE : RpAns w b (.returned (.tuple #[.agg zR, .int .i64 5])) _ := RG.end_no HC8.out HX.out HD0.out
                    rw [Hzc.out] at hE
                    exact hE
              · have hkn : kz = n := by omega
                have HRk3 := Lib.hid (show RkRel (s32 b) b ak2 ek2 (elN (s32 b) q3 f3 kz) ak3 ek3 from ⟨kz, by rw [HSm3.out]; exact hk, by rw [HSm3.out], by rw [HSm3.out]; exact Hst.out.symm, .inl (by rw [HSm3.out]; exact hkn)⟩)
                clear Hst hkn
                have HX := Lib.hid (show RdD b ⟨0, n1, Form.unfold_ n2, Form.unfold_ n3, elN (sTr b) q1 f1 kt, elN (s64 b) q2 f2 kg, elN (s32 b) q3 f3 kz⟩ ak3 ek3 from by
                  unfold RdD RdRp
                  rw [HS.out]
                  exact .inr ⟨rfl, n1, a1, e1, n2, a2, e2, n3, a3, e3, ak1, ek1, ak2, ek2, HS1.out, HS2.out, HS3.out, HRk1.out, HRk2.out, HRk3.out, rfl, rfl, rfl, rfl⟩)
                obtain ⟨cf, hcf⟩ : ∃ cf : Array Value, #[.int .i64 0, .int .u64 (n1 : Int), .int .i64 (Form.unfold_ n2), .int .i64 (Form.unfold_ n3), .slice pt kt ct, .slice pg kg cg, .slice pz kz cz] = cf := ⟨_, rfl⟩
                rw [hcf] at HI
                have hcs : cf.size = 7 := by rw [← hcf]; rfl
                have HCo := Lib.hid (show cf.all (·.oneCell') = true by rw [← hcf]; simp [Value.oneCell'])
                have Hcf := Lib.hid hcf
                clear hcf
                obtain ⟨d, hd⟩ : ∃ d, Form.done b.length ak3 ek3 = d := ⟨_, rfl⟩
                have HD := Lib.hid hd
                have HDn := Lib.hid (fun W (h : RG w W b g w.heap.size C ak3 ek3 cf) => (show Calls Try.prog 70 #[.pointer (some ⟨g, 0, none⟩)] W fun r w' => r = .returned (.int .i64 d) ∧ Below W.heap.size W w' from by rw [← hd]; exact (refrdone_w g 92 b ak3 ek3 w.heap.size W h.at_ h.ha h.hl).mono fun e w' ⟨h1, h2⟩ => ⟨h1, by subst h2; exact Below.refl _ _⟩))
                clear hd
                by_cases h0 : d = 0
                · subst h0
                  go_wp2_with (first
                    | (go_at_call 70; (with_reducible refine (HDn.out _ HI.out).mono ?_); rintro r w8 ⟨rfl, hB⟩; have HC8 := Lib.hid (HI.out.keep hB); have HK8 := Lib.hid (show Keeps wr w8 from hB.block); clear hB)
                    | (refine wpList_load_rr rfl (.tmp 5) rfl rfl HC8.out.c hcs ?_)
                    | (refine wpList_store_rowTo rfl 36 (.tmp 2) (.tmp 117) rfl rfl _ cf rfl rfl 36 zc (by rw [← Hzc.out]; exact HC8.out.z) (show _ = some cf.size by rw [hcs]; kernel_rfl) (by rw [hcs, hzs]) HCo.out ?_))
                  obtain ⟨hend, hres, _⟩ := HC8.out.result cf
                  refine bodyPost_ret (v := .tuple #[.agg cf, .int .i64 0]) (results_cell_tmp rfl _ _ w.heap.size 36 _ _ _ _ rfl rfl hres rfl Try.underlying36 (show _ = some cf.size by rw [hcs]; kernel_rfl)) rfl ?_
                  have hE := HC8.out
                  rw [← Hcf.out] at hE ⊢
                  have b1 := Nat.lt_trans HI.out.lC HCB1.out
                  have b2 := Nat.lt_trans HI.out.lC HCB2.out
                  have b3 := Nat.lt_trans HI.out.lC HCB3.out
                  exact RG.end_yes hE HX.out HD.out (by rw [elN_len]; exact own_keeps HO1.out HK8.out) (by rw [elN_len]; exact own_keeps HO2.out HK8.out) (by rw [elN_len]; exact own_keeps HO3.out HK8.out) b1 b2 b3
                · have hdn : (d != 0) = true := by simpa using h0
                  have HD0 := Lib.hid (show Form.done b.length ak3 ek3 ≠ 0 from by rw [HD.out]; exact h0)
                  clear h0
                  go_wp2_with (first
                    | (go_at_call 70; (with_reducible refine (HDn.out _ HI.out).mono ?_); rintro r w8 ⟨rfl, hB⟩; have HC8 := Lib.hid (HI.out.keep hB); clear hB)
                    | (refine wpList_plain_value (v := .agg zc) rfl (by rw [← Hzc.out]; exact exec_build36e rfl) ?_)
                    | (refine wpList_store_rowTo rfl 36 (.tmp 2) (.tmp 116) rfl rfl _ zc rfl rfl 36 zc (by rw [← Hzc.out]; exact HC8.out.z) (show _ = some zc.size by rw [hzs]; kernel_rfl) rfl HZo.out ?_))
                  obtain ⟨hend, hres, _⟩ := HC8.out.result zc
                  refine bodyPost_ret (v := .tuple #[.agg zc, .int .i64 5]) (results_cell_tmp rfl _ _ w.heap.size 36 _ _ _ _ rfl rfl hres rfl Try.underlying36 (show _ = some zc.size by rw [hzs]; kernel_rfl)) rfl ?_
                  have hE : RpAns w b (.returned (.tuple #[.agg zR, .int .i64 5])) _ := RG.end_no HC8.out HX.out HD0.out
                  rw [Hzc.out] at hE
                  exact hE
    · have hkn : kt = n := by omega
      have HRk1 := Lib.hid (show RkRel (sTr b) b a3 e3 (elN (sTr b) q1 f1 kt) ak1 ek1 from ⟨kt, by rw [HSm1.out]; exact hk, by rw [HSm1.out], by rw [HSm1.out]; exact Hst.out.symm, .inl (by rw [HSm1.out]; exact hkn)⟩)
      clear Hst hkn
      clear HBu
      have Htop2 := Lib.hid (small_top b ak1 ek1 4000)
      go_upto_region 18 with (go_at_call 65; (with_reducible refine (refsmall_z g 92 b ak1 ek1 w.heap.size 4000 4000 rfl _ HI.out.at_ HI.out.hg HI.out.ha HI.out.hl (by decide)).mono ?_); rintro r u2 ⟨n, q2, f2, hs, rfl, hm⟩; have HSm2 := Lib.hid hs; have HL := Lib.hid (HI.out.moved hm (by have := small_at (e := ek1) (most := 4000) HI.out.ha; rw [HSm2.out] at this; exact this)); have HO1 := Lib.hid (own_moved HO1.out hm.grown (Nat.lt_trans HgC.out HCB1.out)); clear hs hm)
      have hn4 : n ≤ 4000 := by have h := Htop2.out; rw [HSm2.out] at h; exact h
      clear ce
      obtain ⟨B2, hB2⟩ : ∃ B, u2.heap.size = B := ⟨_, rfl⟩
      have HCB2 := Lib.hid (show C < B2 from by rw [← hB2]; exact HL.out.sz.2)
      have Hlt12 := Lib.hid (show ∀ x, (Value.slice pt kt ct).ownBlock = some x → x < B2 from fun x e => by rw [← hB2]; exact (HO1.out.lt x e).2)
      have HBu := Lib.hid (show B2 ≤ u2.heap.size from Nat.le_of_eq hB2.symm)
      clear hB2
      go_wp2
      go_loopw [9] (fun ix wr2 => ∃ (kg : Nat) (pg : Option Addr) (cg : Nat), kg ≤ n ∧ ix = .int .u64 (kg : Int) ∧ Hid (RG w wr2 b g w.heap.size C (stN (s64 b) q2 f2 kg).1 (stN (s64 b) q2 f2 kg).2 #[.int .i64 0, .int .u64 (n1 : Int), .int .i64 (Form.unfold_ n2), .int .i64 (Form.unfold_ n3), .slice pt kt ct, .slice pg kg cg, .slice none 0 0]) ∧ Hid (B2 ≤ wr2.heap.size) ∧ Hid (wr2.ownsRow B2 24 1 (.slice pg kg cg) kg ((elN (s64 b) q2 f2 kg).flatMap (fun (n : Nat) => [Value.int .u64 (n : Int)]))) ∧ Hid (wr2.ownsRow B1 62 4 (.slice pt kt ct) kt ((elN (sTr b) q1 f1 kt).flatMap Tr.cells))) (fun ix _ => n - (intOf ix).toNat)
      case atStart => exact ⟨0, none, 0, Nat.zero_le _, rfl, HL, HBu, Lib.hid (own_none _ _ _ _), HO1⟩
      case round =>
        clear HL HBu HO1
        obtain ⟨kg, pg, cg, hk, rfl, HI, HBu, HO2, HO1⟩ := hrel
        obtain ⟨st, hst⟩ : ∃ st, stN (s64 b) q2 f2 kg = st := ⟨_, rfl⟩
        obtain ⟨ak2, ek2⟩ := st
        rw [hst] at HI
        have Hst := Lib.hid hst
        clear hst
        dsimp only at HI
        have ce := HI.out.at_.cell1
        by_cases hlt : kg < n
        · by_cases he : ek2 = 0
          · subst he
            have HNd := Lib.hid HI.out.drew
            have xc := HI.out.at 5
            have HOd := Lib.hid (own_keeps HO2.out (Keeps.refl wr).drew)
            have HOd1 := Lib.hid (own_keeps HO1.out (Keeps.refl wr).drew)
            go_wp2_with fail
            go_region_law (first
              | (refine step_enter rfl 66 Try.func66 (by kernel_rfl) (by kernel_rfl) _ _ rfl #[.pointer (some ⟨g, 0, none⟩)] (by simp [Act.eval, Act.put]) (refrnat_w g 92 b ak2 0 w.heap.size _ HNd.out.at_ HNd.out.hg HNd.out.ha HNd.out.hl) ?_; (rintro r x6 ⟨m, j4, l4, hs, rfl, hm⟩; have HSt := Lib.hid (show s64 b ak2 0 = (m, j4, l4) from hs); have HR6 := Lib.hid (HNd.out.moved hm (by have := s64_at (e := 0) HNd.out.ha; rw [HSt.out] at this; exact this)); have x6c := HR6.out.at 5; have x6d := (HR6.out.alloc (.cells #[.int .u64 (m : Int)] 24)).at 5; have HO6 := Lib.hid (own_keeps (own_moved HOd.out hm.grown (Nat.lt_trans HgC.out HCB2.out)) ((Keeps.refl x6).alloc (.cells #[.int .u64 (m : Int)] 24))); have HB6 := Lib.hid (show B2 ≤ (x6.alloc (.cells #[.int .u64 (m : Int)] 24)).heap.size from Nat.le_trans HBu.out (Nat.le_trans hm.grown.size (by rw [heap_alloc_size]; omega))); obtain ⟨v9, x9, hr9, ho9, hg9⟩ := run_append_src (P := Try.prog) (ty := 33) he33 HO6.out (one_src (c := 1) (heap_alloc_new x6 (.cells #[.int .u64 (m : Int)] 24)) rfl (by simp [Value.oneCell'])) (by unfold maxLen; omega) (by omega) HB6.out; obtain ⟨p9, c9, rfl⟩ := own_form ho9; have Hr9 := Lib.hid hr9; have HO9 := Lib.hid ho9; have HR9 := Lib.hid ((HR6.out.alloc (.cells #[.int .u64 (m : Int)] 24)).app hg9 (base := B2) (fun j e => (HO6.out.lt j e).1) (Nat.lt_trans HgC.out HCB2.out) HCB2.out); have y9 := HR9.out.at 5; have v9 := HR9.out.thaw 5; have HB9 := Lib.hid (Nat.le_trans HB6.out hg9.size); have HQ1 := Lib.hid (own_app (own_keeps (own_moved HOd1.out hm.grown (Nat.lt_trans HgC.out HCB1.out)) ((Keeps.refl x6).alloc (.cells #[.int .u64 (m : Int)] 24))) Hlt12.out hg9 (fun j e => (HO6.out.lt j e).1)); clear hs hm hr9 ho9 hg9; refine ⟨_, rfl, ?_⟩))
              | (refine step_append_eq rfl (.tmp 85) (.tmp 88) 33 rfl (v := .slice pg kg cg) (y := .slice (some ⟨x6.heap.size, 0, none⟩) 1 1) (by simp [Act.eval]) (by simp [Act.eval]) Hr9.out ?_))
            all_goals
              go_wp2
              go_roundw
              case rel =>
                have hs1 : stN (s64 b) q2 f2 (kg + 1) = (j4, l4) := by show (s64 b (stN (s64 b) q2 f2 kg).1 (stN (s64 b) q2 f2 kg).2).2 = _; rw [Hst.out]; show (s64 b ak2 0).2 = _; rw [HSt.out]
                refine ⟨kg + 1, p9, c9, hlt, by go_num, ?_, ?_, ?_, ?_⟩
                · rw [hs1]; exact Lib.hid (HR9.out.set 5 (.slice p9 (kg + 1) c9))
                · exact Lib.hid (Nat.le_trans HB9.out (Lib.grownBy_setCell x9 C 5 _).size)
                · refine Lib.hid ?_
                  rw [elN_succ, List.flatMap_append]
                  have hx : (s64 b (stN (s64 b) q2 f2 kg).1 (stN (s64 b) q2 f2 kg).2).1 = m := by rw [Hst.out]; show (s64 b ak2 0).1 = _; rw [HSt.out]
                  rw [hx]
                  simp only [List.flatMap_cons, List.flatMap_nil, List.append_nil]
                  exact own_moved HO9.out (Lib.grownBy_setCell x9 C 5 _) HCB2.out
                · exact Lib.hid (own_moved HQ1.out (Lib.grownBy_setCell x9 C 5 _) HCB1.out)
              case measure => simp [intOf]; omega
          · have hee : (ek2 == 0) = false := by simpa using he
            have HRk2 := Lib.hid (show RkRel (s64 b) b ak1 ek1 (elN (s64 b) q2 f2 kg) ak2 ek2 from ⟨kg, by rw [HSm2.out]; exact hk, by rw [HSm2.out], by rw [HSm2.out]; exact Hst.out.symm, .inr he⟩)
            clear he Hst
            clear HBu
            have Htop3 := Lib.hid (small_top b ak2 ek2 4000)
            go_upto_region 23 with (go_at_call 65; (with_reducible refine (refsmall_z g 92 b ak2 ek2 w.heap.size 4000 4000 rfl _ HI.out.at_ HI.out.hg HI.out.ha HI.out.hl (by decide)).mono ?_); rintro r u3 ⟨n, q3, f3, hs, rfl, hm⟩; have HSm3 := Lib.hid hs; have HL := Lib.hid (HI.out.moved hm (by have := small_at (e := ek2) (most := 4000) HI.out.ha; rw [HSm3.out] at this; exact this)); have HO1 := Lib.hid (own_moved HO1.out hm.grown (Nat.lt_trans HgC.out HCB1.out)); have HO2 := Lib.hid (own_moved HO2.out hm.grown (Nat.lt_trans HgC.out HCB2.out)); clear hs hm)
            have hn4 : n ≤ 4000 := by have h := Htop3.out; rw [HSm3.out] at h; exact h
            clear ce
            obtain ⟨B3, hB3⟩ : ∃ B, u3.heap.size = B := ⟨_, rfl⟩
            have HCB3 := Lib.hid (show C < B3 from by rw [← hB3]; exact HL.out.sz.2)
            have Hlt13 := Lib.hid (show ∀ x, (Value.slice pt kt ct).ownBlock = some x → x < B3 from fun x e => by rw [← hB3]; exact (HO1.out.lt x e).2)
            have Hlt23 := Lib.hid (show ∀ x, (Value.slice pg kg cg).ownBlock = some x → x < B3 from fun x e => by rw [← hB3]; exact (HO2.out.lt x e).2)
            have HBu := Lib.hid (show B3 ≤ u3.heap.size from Nat.le_of_eq hB3.symm)
            clear hB3
            go_wp2
            go_loopw [10] (fun ix wr3 => ∃ (kz : Nat) (pz : Option Addr) (cz : Nat), kz ≤ n ∧ ix = .int .u64 (kz : Int) ∧ Hid (RG w wr3 b g w.heap.size C (stN (s32 b) q3 f3 kz).1 (stN (s32 b) q3 f3 kz).2 #[.int .i64 0, .int .u64 (n1 : Int), .int .i64 (Form.unfold_ n2), .int .i64 (Form.unfold_ n3), .slice pt kt ct, .slice pg kg cg, .slice pz kz cz]) ∧ Hid (B3 ≤ wr3.heap.size) ∧ Hid (wr3.ownsRow B3 23 1 (.slice pz kz cz) kz ((elN (s32 b) q3 f3 kz).flatMap (fun (n : Nat) => [Value.int .u32 (n : Int)]))) ∧ Hid (wr3.ownsRow B1 62 4 (.slice pt kt ct) kt ((elN (sTr b) q1 f1 kt).flatMap Tr.cells)) ∧ Hid (wr3.ownsRow B2 24 1 (.slice pg kg cg) kg ((elN (s64 b) q2 f2 kg).flatMap (fun (n : Nat) => [Value.int .u64 (n : Int)])))) (fun ix _ => n - (intOf ix).toNat)
            case atStart => exact ⟨0, none, 0, Nat.zero_le _, rfl, HL, HBu, Lib.hid (own_none _ _ _ _), HO1, HO2⟩
            case round =>
              clear HL HBu HO1 HO2
              obtain ⟨kz, pz, cz, hk, rfl, HI, HBu, HO3, HO1, HO2⟩ := hrel
              obtain ⟨st, hst⟩ : ∃ st, stN (s32 b) q3 f3 kz = st := ⟨_, rfl⟩
              obtain ⟨ak3, ek3⟩ := st
              rw [hst] at HI
              have Hst := Lib.hid hst
              clear hst
              dsimp only at HI
              have ce := HI.out.at_.cell1
              by_cases hlt : kz < n
              · by_cases he : ek3 = 0
                · subst he
                  have HNd := Lib.hid HI.out.drew
                  have xc := HI.out.at 6
                  have HOd := Lib.hid (own_keeps HO3.out (Keeps.refl wr).drew)
                  have HOd1 := Lib.hid (own_keeps HO1.out (Keeps.refl wr).drew)
                  have HOd2 := Lib.hid (own_keeps HO2.out (Keeps.refl wr).drew)
                  go_wp2_with fail
                  go_region_law (first
                    | (refine step_enter rfl 65 Try.func65 (by kernel_rfl) (by kernel_rfl) _ _ rfl #[.pointer (some ⟨g, 0, none⟩), .int .u64 4294967295] (by simp [Act.eval, Act.put]) (refsmall_z g 92 b ak3 0 w.heap.size 4294967295 4294967295 rfl _ HNd.out.at_ HNd.out.hg HNd.out.ha HNd.out.hl (by decide)) ?_; (rintro r x6 ⟨m, j4, l4, hs, rfl, hm⟩; have HSt := Lib.hid (show s32 b ak3 0 = (m, j4, l4) from hs); have hm4 : m ≤ 4294967295 := (by have h := s32_lt b ak3 0; rw [HSt.out] at h; simp only at h; omega); have hw4 : IntKind.u32.wrap (m : Int) = (m : Int) := IntWalk.u32_in _ (by omega); have HR6 := Lib.hid (HNd.out.moved hm (by have := s32_at (e := 0) HNd.out.ha; rw [HSt.out] at this; exact this)); have x6c := HR6.out.at 6; have x6d := (HR6.out.alloc (.cells #[.int .u32 (m : Int)] 23)).at 6; have HO6 := Lib.hid (own_keeps (own_moved HOd.out hm.grown (Nat.lt_trans HgC.out HCB3.out)) ((Keeps.refl x6).alloc (.cells #[.int .u32 (m : Int)] 23))); have HB6 := Lib.hid (show B3 ≤ (x6.alloc (.cells #[.int .u32 (m : Int)] 23)).heap.size from Nat.le_trans HBu.out (Nat.le_trans hm.grown.size (by rw [heap_alloc_size]; omega))); obtain ⟨v9, x9, hr9, ho9, hg9⟩ := run_append_src (P := Try.prog) (ty := 34) he34 HO6.out (one_src (c := 1) (heap_alloc_new x6 (.cells #[.int .u32 (m : Int)] 23)) rfl (by simp [Value.oneCell'])) (by unfold maxLen; omega) (by omega) HB6.out; obtain ⟨p9, c9, rfl⟩ := own_form ho9; have Hr9 := Lib.hid hr9; have HO9 := Lib.hid ho9; have HR9 := Lib.hid ((HR6.out.alloc (.cells #[.int .u32 (m : Int)] 23)).app hg9 (base := B3) (fun j e => (HO6.out.lt j e).1) (Nat.lt_trans HgC.out HCB3.out) HCB3.out); have y9 := HR9.out.at 6; have v9 := HR9.out.thaw 6; have HB9 := Lib.hid (Nat.le_trans HB6.out hg9.size); have HQ1 := Lib.hid (own_app (own_keeps (own_moved HOd1.out hm.grown (Nat.lt_trans HgC.out HCB1.out)) ((Keeps.refl x6).alloc (.cells #[.int .u32 (m : Int)] 23))) Hlt13.out hg9 (fun j e => (HO6.out.lt j e).1)); have HQ2 := Lib.hid (own_app (own_keeps (own_moved HOd2.out hm.grown (Nat.lt_trans HgC.out HCB2.out)) ((Keeps.refl x6).alloc (.cells #[.int .u32 (m : Int)] 23))) Hlt23.out hg9 (fun j e => (HO6.out.lt j e).1)); clear hs hm hr9 ho9 hg9; refine ⟨_, rfl, ?_⟩))
                    | (refine step_append_eq rfl (.tmp 106) (.tmp 110) 34 rfl (v := .slice pz kz cz) (y := .slice (some ⟨x6.heap.size, 0, none⟩) 1 1) (by simp [Act.eval]) (by simp [Act.eval]) Hr9.out ?_))
                  all_goals
                    go_wp2
                    go_roundw
                    case rel =>
                      have hs1 : stN (s32 b) q3 f3 (kz + 1) = (j4, l4) := by show (s32 b (stN (s32 b) q3 f3 kz).1 (stN (s32 b) q3 f3 kz).2).2 = _; rw [Hst.out]; show (s32 b ak3 0).2 = _; rw [HSt.out]
                      refine ⟨kz + 1, p9, c9, hlt, by go_num, ?_, ?_, ?_, ?_, ?_⟩
                      · rw [hs1]; exact Lib.hid (HR9.out.set 6 (.slice p9 (kz + 1) c9))
                      · exact Lib.hid (Nat.le_trans HB9.out (Lib.grownBy_setCell x9 C 6 _).size)
                      · refine Lib.hid ?_
                        rw [elN_succ, List.flatMap_append]
                        have hx : (s32 b (stN (s32 b) q3 f3 kz).1 (stN (s32 b) q3 f3 kz).2).1 = m := by rw [Hst.out]; show (s32 b ak3 0).1 = _; rw [HSt.out]
                        rw [hx]
                        simp only [List.flatMap_cons, List.flatMap_nil, List.append_nil]
                        exact own_moved HO9.out (Lib.grownBy_setCell x9 C 6 _) HCB3.out
                      · exact Lib.hid (own_moved HQ1.out (Lib.grownBy_setCell x9 C 6 _) HCB1.out)
                      · exact Lib.hid (own_moved HQ2.out (Lib.grownBy_setCell x9 C 6 _) HCB2.out)
                    case measure => simp [intOf]; omega
                · have hee : (ek3 == 0) = false := by simpa using he
                  have HRk3 := Lib.hid (show RkRel (s32 b) b ak2 ek2 (elN (s32 b) q3 f3 kz) ak3 ek3 from ⟨kz, by rw [HSm3.out]; exact hk, by rw [HSm3.out], by rw [HSm3.out]; exact Hst.out.symm, .inr he⟩)
                  clear he Hst
                  have HX := Lib.hid (show RdD b ⟨0, n1, Form.unfold_ n2, Form.unfold_ n3, elN (sTr b) q1 f1 kt, elN (s64 b) q2 f2 kg, elN (s32 b) q3 f3 kz⟩ ak3 ek3 from by
                    unfold RdD RdRp
                    rw [HS.out]
                    exact .inr ⟨rfl, n1, a1, e1, n2, a2, e2, n3, a3, e3, ak1, ek1, ak2, ek2, HS1.out, HS2.out, HS3.out, HRk1.out, HRk2.out, HRk3.out, rfl, rfl, rfl, rfl⟩)
                  obtain ⟨cf, hcf⟩ : ∃ cf : Array Value, #[.int .i64 0, .int .u64 (n1 : Int), .int .i64 (Form.unfold_ n2), .int .i64 (Form.unfold_ n3), .slice pt kt ct, .slice pg kg cg, .slice pz kz cz] = cf := ⟨_, rfl⟩
                  rw [hcf] at HI
                  have hcs : cf.size = 7 := by rw [← hcf]; rfl
                  have HCo := Lib.hid (show cf.all (·.oneCell') = true by rw [← hcf]; simp [Value.oneCell'])
                  have Hcf := Lib.hid hcf
                  clear hcf
                  obtain ⟨d, hd⟩ : ∃ d, Form.done b.length ak3 ek3 = d := ⟨_, rfl⟩
                  have HD := Lib.hid hd
                  have HDn := Lib.hid (fun W (h : RG w W b g w.heap.size C ak3 ek3 cf) => (show Calls Try.prog 70 #[.pointer (some ⟨g, 0, none⟩)] W fun r w' => r = .returned (.int .i64 d) ∧ Below W.heap.size W w' from by rw [← hd]; exact (refrdone_w g 92 b ak3 ek3 w.heap.size W h.at_ h.ha h.hl).mono fun e w' ⟨h1, h2⟩ => ⟨h1, by subst h2; exact Below.refl _ _⟩))
                  clear hd
                  by_cases h0 : d = 0
                  · subst h0
                    go_wp2_with (first
                      | (go_at_call 70; (with_reducible refine (HDn.out _ HI.out).mono ?_); rintro r w8 ⟨rfl, hB⟩; have HC8 := Lib.hid (HI.out.keep hB); have HK8 := Lib.hid (show Keeps wr w8 from hB.block); clear hB)
                      | (refine wpList_load_rr rfl (.tmp 5) rfl rfl HC8.out.c hcs ?_)
                      | (refine wpList_store_rowTo rfl 36 (.tmp 2) (.tmp 117) rfl rfl _ cf rfl rfl 36 zc (by rw [← Hzc.out]; exact HC8.out.z) (show _ = some cf.size by rw [hcs]; kernel_rfl) (by rw [hcs, hzs]) HCo.out ?_))
                    obtain ⟨hend, hres, _⟩ := HC8.out.result cf
                    refine bodyPost_ret (v := .tuple #[.agg cf, .int .i64 0]) (results_cell_tmp rfl _ _ w.heap.size 36 _ _ _ _ rfl rfl hres rfl Try.underlying36 (show _ = some cf.size by rw [hcs]; kernel_rfl)) rfl ?_
                    have hE := HC8.out
                    rw [← Hcf.out] at hE ⊢
                    have b1 := Nat.lt_trans HI.out.lC HCB1.out
                    have b2 := Nat.lt_trans HI.out.lC HCB2.out
                    have b3 := Nat.lt_trans HI.out.lC HCB3.out
                    exact RG.end_yes hE HX.out HD.out (by rw [elN_len]; exact own_keeps HO1.out HK8.out) (by rw [elN_len]; exact own_keeps HO2.out HK8.out) (by rw [elN_len]; exact own_keeps HO3.out HK8.out) b1 b2 b3
                  · have hdn : (d != 0) = true := by simpa using h0
                    have HD0 := Lib.hid (show Form.done b.length ak3 ek3 ≠ 0 from by rw [HD.out]; exact h0)
                    clear h0
                    go_wp2_with (first
                      | (go_at_call 70; (with_reducible refine (HDn.out _ HI.out).mono ?_); rintro r w8 ⟨rfl, hB⟩; have HC8 := Lib.hid (HI.out.keep hB); clear hB)
                      | (refine wpList_plain_value (v := .agg zc) rfl (by rw [← Hzc.out]; exact exec_build36e rfl) ?_)
                      | (refine wpList_store_rowTo rfl 36 (.tmp 2) (.tmp 116) rfl rfl _ zc rfl rfl 36 zc (by rw [← Hzc.out]; exact HC8.out.z) (show _ = some zc.size by rw [hzs]; kernel_rfl) rfl HZo.out ?_))
                    obtain ⟨hend, hres, _⟩ := HC8.out.result zc
                    refine bodyPost_ret (v := .tuple #[.agg zc, .int .i64 5]) (results_cell_tmp rfl _ _ w.heap.size 36 _ _ _ _ rfl rfl hres rfl Try.underlying36 (show _ = some zc.size by rw [hzs]; kernel_rfl)) rfl ?_
                    have hE : RpAns w b (.returned (.tuple #[.agg zR, .int .i64 5])) _ := RG.end_no HC8.out HX.out HD0.out
                    rw [Hzc.out] at hE
                    exact hE
              · have hkn : kz = n := by omega
                have HRk3 := Lib.hid (show RkRel (s32 b) b ak2 ek2 (elN (s32 b) q3 f3 kz) ak3 ek3 from ⟨kz, by rw [HSm3.out]; exact hk, by rw [HSm3.out], by rw [HSm3.out]; exact Hst.out.symm, .inl (by rw [HSm3.out]; exact hkn)⟩)
                clear Hst hkn
                have HX := Lib.hid (show RdD b ⟨0, n1, Form.unfold_ n2, Form.unfold_ n3, elN (sTr b) q1 f1 kt, elN (s64 b) q2 f2 kg, elN (s32 b) q3 f3 kz⟩ ak3 ek3 from by
                  unfold RdD RdRp
                  rw [HS.out]
                  exact .inr ⟨rfl, n1, a1, e1, n2, a2, e2, n3, a3, e3, ak1, ek1, ak2, ek2, HS1.out, HS2.out, HS3.out, HRk1.out, HRk2.out, HRk3.out, rfl, rfl, rfl, rfl⟩)
                obtain ⟨cf, hcf⟩ : ∃ cf : Array Value, #[.int .i64 0, .int .u64 (n1 : Int), .int .i64 (Form.unfold_ n2), .int .i64 (Form.unfold_ n3), .slice pt kt ct, .slice pg kg cg, .slice pz kz cz] = cf := ⟨_, rfl⟩
                rw [hcf] at HI
                have hcs : cf.size = 7 := by rw [← hcf]; rfl
                have HCo := Lib.hid (show cf.all (·.oneCell') = true by rw [← hcf]; simp [Value.oneCell'])
                have Hcf := Lib.hid hcf
                clear hcf
                obtain ⟨d, hd⟩ : ∃ d, Form.done b.length ak3 ek3 = d := ⟨_, rfl⟩
                have HD := Lib.hid hd
                have HDn := Lib.hid (fun W (h : RG w W b g w.heap.size C ak3 ek3 cf) => (show Calls Try.prog 70 #[.pointer (some ⟨g, 0, none⟩)] W fun r w' => r = .returned (.int .i64 d) ∧ Below W.heap.size W w' from by rw [← hd]; exact (refrdone_w g 92 b ak3 ek3 w.heap.size W h.at_ h.ha h.hl).mono fun e w' ⟨h1, h2⟩ => ⟨h1, by subst h2; exact Below.refl _ _⟩))
                clear hd
                by_cases h0 : d = 0
                · subst h0
                  go_wp2_with (first
                    | (go_at_call 70; (with_reducible refine (HDn.out _ HI.out).mono ?_); rintro r w8 ⟨rfl, hB⟩; have HC8 := Lib.hid (HI.out.keep hB); have HK8 := Lib.hid (show Keeps wr w8 from hB.block); clear hB)
                    | (refine wpList_load_rr rfl (.tmp 5) rfl rfl HC8.out.c hcs ?_)
                    | (refine wpList_store_rowTo rfl 36 (.tmp 2) (.tmp 117) rfl rfl _ cf rfl rfl 36 zc (by rw [← Hzc.out]; exact HC8.out.z) (show _ = some cf.size by rw [hcs]; kernel_rfl) (by rw [hcs, hzs]) HCo.out ?_))
                  obtain ⟨hend, hres, _⟩ := HC8.out.result cf
                  refine bodyPost_ret (v := .tuple #[.agg cf, .int .i64 0]) (results_cell_tmp rfl _ _ w.heap.size 36 _ _ _ _ rfl rfl hres rfl Try.underlying36 (show _ = some cf.size by rw [hcs]; kernel_rfl)) rfl ?_
                  have hE := HC8.out
                  rw [← Hcf.out] at hE ⊢
                  have b1 := Nat.lt_trans HI.out.lC HCB1.out
                  have b2 := Nat.lt_trans HI.out.lC HCB2.out
                  have b3 := Nat.lt_trans HI.out.lC HCB3.out
                  exact RG.end_yes hE HX.out HD.out (by rw [elN_len]; exact own_keeps HO1.out HK8.out) (by rw [elN_len]; exact own_keeps HO2.out HK8.out) (by rw [elN_len]; exact own_keeps HO3.out HK8.out) b1 b2 b3
                · have hdn : (d != 0) = true := by simpa using h0
                  have HD0 := Lib.hid (show Form.done b.length ak3 ek3 ≠ 0 from by rw [HD.out]; exact h0)
                  clear h0
                  go_wp2_with (first
                    | (go_at_call 70; (with_reducible refine (HDn.out _ HI.out).mono ?_); rintro r w8 ⟨rfl, hB⟩; have HC8 := Lib.hid (HI.out.keep hB); clear hB)
                    | (refine wpList_plain_value (v := .agg zc) rfl (by rw [← Hzc.out]; exact exec_build36e rfl) ?_)
                    | (refine wpList_store_rowTo rfl 36 (.tmp 2) (.tmp 116) rfl rfl _ zc rfl rfl 36 zc (by rw [← Hzc.out]; exact HC8.out.z) (show _ = some zc.size by rw [hzs]; kernel_rfl) rfl HZo.out ?_))
                  obtain ⟨hend, hres, _⟩ := HC8.out.result zc
                  refine bodyPost_ret (v := .tuple #[.agg zc, .int .i64 5]) (results_cell_tmp rfl _ _ w.heap.size 36 _ _ _ _ rfl rfl hres rfl Try.underlying36 (show _ = some zc.size by rw [hzs]; kernel_rfl)) rfl ?_
                  have hE : RpAns w b (.returned (.tuple #[.agg zR, .int .i64 5])) _ := RG.end_no HC8.out HX.out HD0.out
                  rw [Hzc.out] at hE
                  exact hE
        · have hkn : kg = n := by omega
          have HRk2 := Lib.hid (show RkRel (s64 b) b ak1 ek1 (elN (s64 b) q2 f2 kg) ak2 ek2 from ⟨kg, by rw [HSm2.out]; exact hk, by rw [HSm2.out], by rw [HSm2.out]; exact Hst.out.symm, .inl (by rw [HSm2.out]; exact hkn)⟩)
          clear Hst hkn
          clear HBu
          have Htop3 := Lib.hid (small_top b ak2 ek2 4000)
          go_upto_region 23 with (go_at_call 65; (with_reducible refine (refsmall_z g 92 b ak2 ek2 w.heap.size 4000 4000 rfl _ HI.out.at_ HI.out.hg HI.out.ha HI.out.hl (by decide)).mono ?_); rintro r u3 ⟨n, q3, f3, hs, rfl, hm⟩; have HSm3 := Lib.hid hs; have HL := Lib.hid (HI.out.moved hm (by have := small_at (e := ek2) (most := 4000) HI.out.ha; rw [HSm3.out] at this; exact this)); have HO1 := Lib.hid (own_moved HO1.out hm.grown (Nat.lt_trans HgC.out HCB1.out)); have HO2 := Lib.hid (own_moved HO2.out hm.grown (Nat.lt_trans HgC.out HCB2.out)); clear hs hm)
          have hn4 : n ≤ 4000 := by have h := Htop3.out; rw [HSm3.out] at h; exact h
          clear ce
          obtain ⟨B3, hB3⟩ : ∃ B, u3.heap.size = B := ⟨_, rfl⟩
          have HCB3 := Lib.hid (show C < B3 from by rw [← hB3]; exact HL.out.sz.2)
          have Hlt13 := Lib.hid (show ∀ x, (Value.slice pt kt ct).ownBlock = some x → x < B3 from fun x e => by rw [← hB3]; exact (HO1.out.lt x e).2)
          have Hlt23 := Lib.hid (show ∀ x, (Value.slice pg kg cg).ownBlock = some x → x < B3 from fun x e => by rw [← hB3]; exact (HO2.out.lt x e).2)
          have HBu := Lib.hid (show B3 ≤ u3.heap.size from Nat.le_of_eq hB3.symm)
          clear hB3
          go_wp2
          go_loopw [10] (fun ix wr3 => ∃ (kz : Nat) (pz : Option Addr) (cz : Nat), kz ≤ n ∧ ix = .int .u64 (kz : Int) ∧ Hid (RG w wr3 b g w.heap.size C (stN (s32 b) q3 f3 kz).1 (stN (s32 b) q3 f3 kz).2 #[.int .i64 0, .int .u64 (n1 : Int), .int .i64 (Form.unfold_ n2), .int .i64 (Form.unfold_ n3), .slice pt kt ct, .slice pg kg cg, .slice pz kz cz]) ∧ Hid (B3 ≤ wr3.heap.size) ∧ Hid (wr3.ownsRow B3 23 1 (.slice pz kz cz) kz ((elN (s32 b) q3 f3 kz).flatMap (fun (n : Nat) => [Value.int .u32 (n : Int)]))) ∧ Hid (wr3.ownsRow B1 62 4 (.slice pt kt ct) kt ((elN (sTr b) q1 f1 kt).flatMap Tr.cells)) ∧ Hid (wr3.ownsRow B2 24 1 (.slice pg kg cg) kg ((elN (s64 b) q2 f2 kg).flatMap (fun (n : Nat) => [Value.int .u64 (n : Int)])))) (fun ix _ => n - (intOf ix).toNat)
          case atStart => exact ⟨0, none, 0, Nat.zero_le _, rfl, HL, HBu, Lib.hid (own_none _ _ _ _), HO1, HO2⟩
          case round =>
            clear HL HBu HO1 HO2
            obtain ⟨kz, pz, cz, hk, rfl, HI, HBu, HO3, HO1, HO2⟩ := hrel
            obtain ⟨st, hst⟩ : ∃ st, stN (s32 b) q3 f3 kz = st := ⟨_, rfl⟩
            obtain ⟨ak3, ek3⟩ := st
            rw [hst] at HI
            have Hst := Lib.hid hst
            clear hst
            dsimp only at HI
            have ce := HI.out.at_.cell1
            by_cases hlt : kz < n
            · by_cases he : ek3 = 0
              · subst he
                have HNd := Lib.hid HI.out.drew
                have xc := HI.out.at 6
                have HOd := Lib.hid (own_keeps HO3.out (Keeps.refl wr).drew)
                have HOd1 := Lib.hid (own_keeps HO1.out (Keeps.refl wr).drew)
                have HOd2 := Lib.hid (own_keeps HO2.out (Keeps.refl wr).drew)
                go_wp2_with fail
                go_region_law (first
                  | (refine step_enter rfl 65 Try.func65 (by kernel_rfl) (by kernel_rfl) _ _ rfl #[.pointer (some ⟨g, 0, none⟩), .int .u64 4294967295] (by simp [Act.eval, Act.put]) (refsmall_z g 92 b ak3 0 w.heap.size 4294967295 4294967295 rfl _ HNd.out.at_ HNd.out.hg HNd.out.ha HNd.out.hl (by decide)) ?_; (rintro r x6 ⟨m, j4, l4, hs, rfl, hm⟩; have HSt := Lib.hid (show s32 b ak3 0 = (m, j4, l4) from hs); have hm4 : m ≤ 4294967295 := (by have h := s32_lt b ak3 0; rw [HSt.out] at h; simp only at h; omega); have hw4 : IntKind.u32.wrap (m : Int) = (m : Int) := IntWalk.u32_in _ (by omega); have HR6 := Lib.hid (HNd.out.moved hm (by have := s32_at (e := 0) HNd.out.ha; rw [HSt.out] at this; exact this)); have x6c := HR6.out.at 6; have x6d := (HR6.out.alloc (.cells #[.int .u32 (m : Int)] 23)).at 6; have HO6 := Lib.hid (own_keeps (own_moved HOd.out hm.grown (Nat.lt_trans HgC.out HCB3.out)) ((Keeps.refl x6).alloc (.cells #[.int .u32 (m : Int)] 23))); have HB6 := Lib.hid (show B3 ≤ (x6.alloc (.cells #[.int .u32 (m : Int)] 23)).heap.size from Nat.le_trans HBu.out (Nat.le_trans hm.grown.size (by rw [heap_alloc_size]; omega))); obtain ⟨v9, x9, hr9, ho9, hg9⟩ := run_append_src (P := Try.prog) (ty := 34) he34 HO6.out (one_src (c := 1) (heap_alloc_new x6 (.cells #[.int .u32 (m : Int)] 23)) rfl (by simp [Value.oneCell'])) (by unfold maxLen; omega) (by omega) HB6.out; obtain ⟨p9, c9, rfl⟩ := own_form ho9; have Hr9 := Lib.hid hr9; have HO9 := Lib.hid ho9; have HR9 := Lib.hid ((HR6.out.alloc (.cells #[.int .u32 (m : Int)] 23)).app hg9 (base := B3) (fun j e => (HO6.out.lt j e).1) (Nat.lt_trans HgC.out HCB3.out) HCB3.out); have y9 := HR9.out.at 6; have v9 := HR9.out.thaw 6; have HB9 := Lib.hid (Nat.le_trans HB6.out hg9.size); have HQ1 := Lib.hid (own_app (own_keeps (own_moved HOd1.out hm.grown (Nat.lt_trans HgC.out HCB1.out)) ((Keeps.refl x6).alloc (.cells #[.int .u32 (m : Int)] 23))) Hlt13.out hg9 (fun j e => (HO6.out.lt j e).1)); have HQ2 := Lib.hid (own_app (own_keeps (own_moved HOd2.out hm.grown (Nat.lt_trans HgC.out HCB2.out)) ((Keeps.refl x6).alloc (.cells #[.int .u32 (m : Int)] 23))) Hlt23.out hg9 (fun j e => (HO6.out.lt j e).1)); clear hs hm hr9 ho9 hg9; refine ⟨_, rfl, ?_⟩))
                  | (refine step_append_eq rfl (.tmp 106) (.tmp 110) 34 rfl (v := .slice pz kz cz) (y := .slice (some ⟨x6.heap.size, 0, none⟩) 1 1) (by simp [Act.eval]) (by simp [Act.eval]) Hr9.out ?_))
                all_goals
                  go_wp2
                  go_roundw
                  case rel =>
                    have hs1 : stN (s32 b) q3 f3 (kz + 1) = (j4, l4) := by show (s32 b (stN (s32 b) q3 f3 kz).1 (stN (s32 b) q3 f3 kz).2).2 = _; rw [Hst.out]; show (s32 b ak3 0).2 = _; rw [HSt.out]
                    refine ⟨kz + 1, p9, c9, hlt, by go_num, ?_, ?_, ?_, ?_, ?_⟩
                    · rw [hs1]; exact Lib.hid (HR9.out.set 6 (.slice p9 (kz + 1) c9))
                    · exact Lib.hid (Nat.le_trans HB9.out (Lib.grownBy_setCell x9 C 6 _).size)
                    · refine Lib.hid ?_
                      rw [elN_succ, List.flatMap_append]
                      have hx : (s32 b (stN (s32 b) q3 f3 kz).1 (stN (s32 b) q3 f3 kz).2).1 = m := by rw [Hst.out]; show (s32 b ak3 0).1 = _; rw [HSt.out]
                      rw [hx]
                      simp only [List.flatMap_cons, List.flatMap_nil, List.append_nil]
                      exact own_moved HO9.out (Lib.grownBy_setCell x9 C 6 _) HCB3.out
                    · exact Lib.hid (own_moved HQ1.out (Lib.grownBy_setCell x9 C 6 _) HCB1.out)
                    · exact Lib.hid (own_moved HQ2.out (Lib.grownBy_setCell x9 C 6 _) HCB2.out)
                  case measure => simp [intOf]; omega
              · have hee : (ek3 == 0) = false := by simpa using he
                have HRk3 := Lib.hid (show RkRel (s32 b) b ak2 ek2 (elN (s32 b) q3 f3 kz) ak3 ek3 from ⟨kz, by rw [HSm3.out]; exact hk, by rw [HSm3.out], by rw [HSm3.out]; exact Hst.out.symm, .inr he⟩)
                clear he Hst
                have HX := Lib.hid (show RdD b ⟨0, n1, Form.unfold_ n2, Form.unfold_ n3, elN (sTr b) q1 f1 kt, elN (s64 b) q2 f2 kg, elN (s32 b) q3 f3 kz⟩ ak3 ek3 from by
                  unfold RdD RdRp
                  rw [HS.out]
                  exact .inr ⟨rfl, n1, a1, e1, n2, a2, e2, n3, a3, e3, ak1, ek1, ak2, ek2, HS1.out, HS2.out, HS3.out, HRk1.out, HRk2.out, HRk3.out, rfl, rfl, rfl, rfl⟩)
                obtain ⟨cf, hcf⟩ : ∃ cf : Array Value, #[.int .i64 0, .int .u64 (n1 : Int), .int .i64 (Form.unfold_ n2), .int .i64 (Form.unfold_ n3), .slice pt kt ct, .slice pg kg cg, .slice pz kz cz] = cf := ⟨_, rfl⟩
                rw [hcf] at HI
                have hcs : cf.size = 7 := by rw [← hcf]; rfl
                have HCo := Lib.hid (show cf.all (·.oneCell') = true by rw [← hcf]; simp [Value.oneCell'])
                have Hcf := Lib.hid hcf
                clear hcf
                obtain ⟨d, hd⟩ : ∃ d, Form.done b.length ak3 ek3 = d := ⟨_, rfl⟩
                have HD := Lib.hid hd
                have HDn := Lib.hid (fun W (h : RG w W b g w.heap.size C ak3 ek3 cf) => (show Calls Try.prog 70 #[.pointer (some ⟨g, 0, none⟩)] W fun r w' => r = .returned (.int .i64 d) ∧ Below W.heap.size W w' from by rw [← hd]; exact (refrdone_w g 92 b ak3 ek3 w.heap.size W h.at_ h.ha h.hl).mono fun e w' ⟨h1, h2⟩ => ⟨h1, by subst h2; exact Below.refl _ _⟩))
                clear hd
                by_cases h0 : d = 0
                · subst h0
                  go_wp2_with (first
                    | (go_at_call 70; (with_reducible refine (HDn.out _ HI.out).mono ?_); rintro r w8 ⟨rfl, hB⟩; have HC8 := Lib.hid (HI.out.keep hB); have HK8 := Lib.hid (show Keeps wr w8 from hB.block); clear hB)
                    | (refine wpList_load_rr rfl (.tmp 5) rfl rfl HC8.out.c hcs ?_)
                    | (refine wpList_store_rowTo rfl 36 (.tmp 2) (.tmp 117) rfl rfl _ cf rfl rfl 36 zc (by rw [← Hzc.out]; exact HC8.out.z) (show _ = some cf.size by rw [hcs]; kernel_rfl) (by rw [hcs, hzs]) HCo.out ?_))
                  obtain ⟨hend, hres, _⟩ := HC8.out.result cf
                  refine bodyPost_ret (v := .tuple #[.agg cf, .int .i64 0]) (results_cell_tmp rfl _ _ w.heap.size 36 _ _ _ _ rfl rfl hres rfl Try.underlying36 (show _ = some cf.size by rw [hcs]; kernel_rfl)) rfl ?_
                  have hE := HC8.out
                  rw [← Hcf.out] at hE ⊢
                  have b1 := Nat.lt_trans HI.out.lC HCB1.out
                  have b2 := Nat.lt_trans HI.out.lC HCB2.out
                  have b3 := Nat.lt_trans HI.out.lC HCB3.out
                  exact RG.end_yes hE HX.out HD.out (by rw [elN_len]; exact own_keeps HO1.out HK8.out) (by rw [elN_len]; exact own_keeps HO2.out HK8.out) (by rw [elN_len]; exact own_keeps HO3.out HK8.out) b1 b2 b3
                · have hdn : (d != 0) = true := by simpa using h0
                  have HD0 := Lib.hid (show Form.done b.length ak3 ek3 ≠ 0 from by rw [HD.out]; exact h0)
                  clear h0
                  go_wp2_with (first
                    | (go_at_call 70; (with_reducible refine (HDn.out _ HI.out).mono ?_); rintro r w8 ⟨rfl, hB⟩; have HC8 := Lib.hid (HI.out.keep hB); clear hB)
                    | (refine wpList_plain_value (v := .agg zc) rfl (by rw [← Hzc.out]; exact exec_build36e rfl) ?_)
                    | (refine wpList_store_rowTo rfl 36 (.tmp 2) (.tmp 116) rfl rfl _ zc rfl rfl 36 zc (by rw [← Hzc.out]; exact HC8.out.z) (show _ = some zc.size by rw [hzs]; kernel_rfl) rfl HZo.out ?_))
                  obtain ⟨hend, hres, _⟩ := HC8.out.result zc
                  refine bodyPost_ret (v := .tuple #[.agg zc, .int .i64 5]) (results_cell_tmp rfl _ _ w.heap.size 36 _ _ _ _ rfl rfl hres rfl Try.underlying36 (show _ = some zc.size by rw [hzs]; kernel_rfl)) rfl ?_
                  have hE : RpAns w b (.returned (.tuple #[.agg zR, .int .i64 5])) _ := RG.end_no HC8.out HX.out HD0.out
                  rw [Hzc.out] at hE
                  exact hE
            · have hkn : kz = n := by omega
              have HRk3 := Lib.hid (show RkRel (s32 b) b ak2 ek2 (elN (s32 b) q3 f3 kz) ak3 ek3 from ⟨kz, by rw [HSm3.out]; exact hk, by rw [HSm3.out], by rw [HSm3.out]; exact Hst.out.symm, .inl (by rw [HSm3.out]; exact hkn)⟩)
              clear Hst hkn
              have HX := Lib.hid (show RdD b ⟨0, n1, Form.unfold_ n2, Form.unfold_ n3, elN (sTr b) q1 f1 kt, elN (s64 b) q2 f2 kg, elN (s32 b) q3 f3 kz⟩ ak3 ek3 from by
                unfold RdD RdRp
                rw [HS.out]
                exact .inr ⟨rfl, n1, a1, e1, n2, a2, e2, n3, a3, e3, ak1, ek1, ak2, ek2, HS1.out, HS2.out, HS3.out, HRk1.out, HRk2.out, HRk3.out, rfl, rfl, rfl, rfl⟩)
              obtain ⟨cf, hcf⟩ : ∃ cf : Array Value, #[.int .i64 0, .int .u64 (n1 : Int), .int .i64 (Form.unfold_ n2), .int .i64 (Form.unfold_ n3), .slice pt kt ct, .slice pg kg cg, .slice pz kz cz] = cf := ⟨_, rfl⟩
              rw [hcf] at HI
              have hcs : cf.size = 7 := by rw [← hcf]; rfl
              have HCo := Lib.hid (show cf.all (·.oneCell') = true by rw [← hcf]; simp [Value.oneCell'])
              have Hcf := Lib.hid hcf
              clear hcf
              obtain ⟨d, hd⟩ : ∃ d, Form.done b.length ak3 ek3 = d := ⟨_, rfl⟩
              have HD := Lib.hid hd
              have HDn := Lib.hid (fun W (h : RG w W b g w.heap.size C ak3 ek3 cf) => (show Calls Try.prog 70 #[.pointer (some ⟨g, 0, none⟩)] W fun r w' => r = .returned (.int .i64 d) ∧ Below W.heap.size W w' from by rw [← hd]; exact (refrdone_w g 92 b ak3 ek3 w.heap.size W h.at_ h.ha h.hl).mono fun e w' ⟨h1, h2⟩ => ⟨h1, by subst h2; exact Below.refl _ _⟩))
              clear hd
              by_cases h0 : d = 0
              · subst h0
                go_wp2_with (first
                  | (go_at_call 70; (with_reducible refine (HDn.out _ HI.out).mono ?_); rintro r w8 ⟨rfl, hB⟩; have HC8 := Lib.hid (HI.out.keep hB); have HK8 := Lib.hid (show Keeps wr w8 from hB.block); clear hB)
                  | (refine wpList_load_rr rfl (.tmp 5) rfl rfl HC8.out.c hcs ?_)
                  | (refine wpList_store_rowTo rfl 36 (.tmp 2) (.tmp 117) rfl rfl _ cf rfl rfl 36 zc (by rw [← Hzc.out]; exact HC8.out.z) (show _ = some cf.size by rw [hcs]; kernel_rfl) (by rw [hcs, hzs]) HCo.out ?_))
                obtain ⟨hend, hres, _⟩ := HC8.out.result cf
                refine bodyPost_ret (v := .tuple #[.agg cf, .int .i64 0]) (results_cell_tmp rfl _ _ w.heap.size 36 _ _ _ _ rfl rfl hres rfl Try.underlying36 (show _ = some cf.size by rw [hcs]; kernel_rfl)) rfl ?_
                have hE := HC8.out
                rw [← Hcf.out] at hE ⊢
                have b1 := Nat.lt_trans HI.out.lC HCB1.out
                have b2 := Nat.lt_trans HI.out.lC HCB2.out
                have b3 := Nat.lt_trans HI.out.lC HCB3.out
                exact RG.end_yes hE HX.out HD.out (by rw [elN_len]; exact own_keeps HO1.out HK8.out) (by rw [elN_len]; exact own_keeps HO2.out HK8.out) (by rw [elN_len]; exact own_keeps HO3.out HK8.out) b1 b2 b3
              · have hdn : (d != 0) = true := by simpa using h0
                have HD0 := Lib.hid (show Form.done b.length ak3 ek3 ≠ 0 from by rw [HD.out]; exact h0)
                clear h0
                go_wp2_with (first
                  | (go_at_call 70; (with_reducible refine (HDn.out _ HI.out).mono ?_); rintro r w8 ⟨rfl, hB⟩; have HC8 := Lib.hid (HI.out.keep hB); clear hB)
                  | (refine wpList_plain_value (v := .agg zc) rfl (by rw [← Hzc.out]; exact exec_build36e rfl) ?_)
                  | (refine wpList_store_rowTo rfl 36 (.tmp 2) (.tmp 116) rfl rfl _ zc rfl rfl 36 zc (by rw [← Hzc.out]; exact HC8.out.z) (show _ = some zc.size by rw [hzs]; kernel_rfl) rfl HZo.out ?_))
                obtain ⟨hend, hres, _⟩ := HC8.out.result zc
                refine bodyPost_ret (v := .tuple #[.agg zc, .int .i64 5]) (results_cell_tmp rfl _ _ w.heap.size 36 _ _ _ _ rfl rfl hres rfl Try.underlying36 (show _ = some zc.size by rw [hzs]; kernel_rfl)) rfl ?_
                have hE : RpAns w b (.returned (.tuple #[.agg zR, .int .i64 5])) _ := RG.end_no HC8.out HX.out HD0.out
                rw [Hzc.out] at hE
                exact hE
theorem refread24_w (v : Value) (b : List UInt8) (w : World) (hb : RdB w v b) (hl : b.length ≤ 1000000) : Calls Try.prog 24 #[v] w (RpAns w b) := by
  by_cases h : (Form.small b 0 0 999).1 = 0
  · by_cases h2 : (Form.small b 0 0 999).2.2 = 0
    · exact refread24_ok_w v b w hb hl h h2
    · exact refread24_bad_w v b w hb hl h h2
  · exact refread24_err_w v b w hb hl _ rfl h

end Go.Proofs.Ytoflehlkacofjaa
