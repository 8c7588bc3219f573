/- A reply, read: the walk of words.ReadReply. -/
import Derived.Test.YtoflehlkacofjaaQfC2
import Derived.Test.YtoflehlkacofjaaQfC4
namespace Go.Proofs.Ytoflehlkacofjaa
open Go.ChangeShapes Go.WideShapes Go.ChangeAt Go.RowKit
set_option linter.unusedVariables false
def zR : Array Value := #[.int .i64 0, .int .u64 0, .int .i64 0, .int .i64 0, .slice none 0 0, .slice none 0 0, .slice none 0 0]
def kR (k : Nat) : Array Value := #[.int .i64 (k : Int), .int .u64 0, .int .i64 0, .int .i64 0, .slice none 0 0, .slice none 0 0, .slice none 0 0]
theorem hz36 : ((Try.prog.info? 36).bind (·.zero)).map Value.cells = some zR := by kernel_rfl
theorem built36 (k : Nat) : Try.prog.built 36 [(0, .int .i64 (k : Int))] = some (kR k) := by kernel_rfl
theorem built36e : Try.prog.built 36 [] = some zR := by kernel_rfl
theorem exec_build36 {o : Oper} {e : Operand → Value} {W : World} (k : Nat) (x : Operand) (ho : o.op = .build 36 #[(0, x)]) (hx : e x = .int .i64 (k : Int)) : (execOp e o).run Try.prog W = .ok (.value (.agg (kR k))) W := by
  have h := run_build (P := Try.prog) W 36 #[(0, .int .i64 (k : Int))] (kR k) (built36 k)
  unfold execOp
  simp only [ho]
  simp [hx, h]
theorem exec_build36e {o : Oper} {e : Operand → Value} {W : World} (ho : o.op = .build 36 #[]) : (execOp e o).run Try.prog W = .ok (.value (.agg zR)) W := by
  have h := run_build (P := Try.prog) W 36 #[] zR built36e
  unfold execOp
  simp only [ho]
  simp [h]
/-- Nothing. -/
def Rp.zero : Rp := ⟨0, 0, 0, 0, [], [], []⟩
theorem Rp.zero_ok : Rp.zero.ok := by
  have h0 : Sp.i64 0 := by unfold Sp.i64; decide
  exact ⟨h0, by show (0 : Nat) < 2 ^ 64; decide, h0, h0, (fun _ h => by cases h), (fun _ h => by cases h), (fun _ h => by cases h), Nat.zero_le _, Nat.zero_le _, Nat.zero_le _⟩
theorem rdc_nil (w : World) (c : Nat) : RdC w (.slice none 0 0) c 0 [] := ⟨none, 0, rfl, Nat.le_refl _, by unfold maxLen; omega, by simp, fun h => absurd rfl h⟩
/-- What is answered. -/
structure RpYes (w : World) (b : List UInt8) (e : Ending) : Prop where
  ex : ∃ x tv gv av, e = .returned (.tuple #[.agg (rpc x tv gv av), .int .i64 0]) ∧ RpA w tv gv av x ∧ RpOf b x
structure RpNo (b : List UInt8) (e : Ending) : Prop where
  eq : e = .returned (.tuple #[.agg zR, .int .i64 5])
  no : RpNone b
def RpAns (w : World) (b : List UInt8) (e : Ending) (w' : World) : Prop := (RpYes w' b e ∨ RpNo b e) ∧ Below w.heap.size w w'
theorem done_zero {n a : Nat} {e : Int} (h : Form.done n a e = 0) : e = 0 ∧ n ≤ a := by
  unfold Form.done at h
  split at h
  · exact absurd h (by decide)
  · rename_i h1
    subst h
    exact ⟨rfl, by omega⟩
/-- The relations of words' reader. -/
def RdW (b : List UInt8) (x : Rp) (a : Nat) (e : Int) : Prop := RdRp b (TkRel (sTr b) b) (TkRel (s64 b) b) (TkRel (s32 b) b) x a e
theorem elN_ok {α : Type} {b : List UInt8} {step : Nat → Int → α × Nat × Int} {enc : α → List UInt8} {ok : α → Prop} (S : StepOf b step enc ok) {a : Nat} {e : Int} {l : List α} {a' : Nat} {e' : Int} (h : TkRel step b a e l a' e') : (∀ x ∈ l, ok x) ∧ l.length ≤ 4000 := by
  rcases h with ⟨hl, _, _⟩ | ⟨rfl, _⟩
  · rw [hl]
    exact ⟨stN_ok S _ _ _, by rw [elN_len]; exact small_top ..⟩
  · exact ⟨(fun _ h => by cases h), by simp⟩
theorem RdW.ok {b : List UInt8} {x : Rp} {a : Nat} {e : Int} (h : RdW b x a e) : x.ok := RdRp.ok_ h (fun h => elN_ok (sTr_of b) h) (fun h => elN_ok (s64_of b) h) (fun h => elN_ok (s32_of b) h)
theorem RdW.yes {b : List UInt8} {x : Rp} {a : Nat} {e : Int} (h : RdW b x a e) (ha : a ≤ b.length) (hd : Form.done b.length a e = 0) : RpOf b x := by
  obtain ⟨rfl, h2⟩ := done_zero hd
  obtain ⟨k1, k2⟩ := RdRp.yes h (by omega) (fun h => TkRel.good (sTr_of b) h) (fun h => TkRel.good (s64_of b) h) (fun h => TkRel.good (s32_of b) h)
  exact ⟨h.ok, k1, k2⟩
theorem RdW.no {b : List UInt8} {x : Rp} {a : Nat} {e : Int} (h : RdW b x a e) (hd : Form.done b.length a e ≠ 0) : RpNone b := by
  rintro y ⟨h1, h2, h3⟩
  obtain ⟨_, k2, k3⟩ := RdRp.of_form [] h h1 h2 (by rw [h3, List.append_nil]) (fun hok hl hd h => TkRel.form (sTr_of b) hok hl hd h) (fun hok hl hd h => TkRel.form (s64_of b) hok hl hd h) (fun hok hl hd h => TkRel.form (s32_of b) hok hl hd h)
  apply hd
  rw [k2, k3, h3]
  unfold Form.done
  rw [if_neg (by omega)]

/-- A reply is being read: the result, the reader, its variable, the cells. -/
structure RP (w W : World) (v : Value) (b : List UInt8) (R V C : Nat) (a : Nat) (e : Int) (cs : Array Value) : Prop where
  r : RV W v b R V a e
  c : RrAt W C cs
  z : RrAt W w.heap.size zR
  nRC : R ≠ C
  nVC : V ≠ C
  lR : w.heap.size < R
  lV : w.heap.size < V
  lC : w.heap.size < C
  below : Below w.heap.size w W
  off : ∀ y, w.heap.size ≤ y → Off v y
section
variable {w W W' : World} {v : Value} {b : List UInt8} {R V C a : Nat} {e : Int} {cs : Array Value}
theorem RP.at (h : RP w W v b R V C a e cs) (i : Nat) : W.cell? ⟨C, i, none⟩ = cs[i]? := h.c.at i
theorem RP.thaw (h : RP w W v b R V C a e cs) (i : Nat) : W.frozen? ⟨C, i, none⟩ = false := by
  have hb := h.c
  unfold RrAt at hb
  simp [World.frozen?, hb]
theorem RP.sz (h : RP w W v b R V C a e cs) : R < W.heap.size ∧ V < W.heap.size ∧ C < W.heap.size := ⟨h.r.lR, h.r.lV, h.c.lt⟩
theorem RP.moved (h : RP w W v b R V C a e cs) {a' : Nat} {e' : Int} (hm : Moved W W' R v a' e') (ha : a' ≤ b.length) : RP w W' v b R V C a' e' cs := by
  have hk : ∀ B, B ≠ R → ∀ x, W.heap[B]? = some x → W'.heap[B]? = some x := fun B hB x hx => by
    rw [hm.2.block B (Array.getElem?_eq_some_iff.1 hx).1 (by simpa using hB)]; exact hx
  exact ⟨h.r.moved hm ha, hk C (Ne.symm h.nRC) _ h.c, hk _ (by have := h.lR; omega) _ h.z, h.nRC, h.nVC, h.lR, h.lV, h.lC, h.below.grown hm.2 h.below.size (fun k e => by cases e; exact Nat.le_of_lt h.lR), h.off⟩
theorem RP.set (h : RP w W v b R V C a e cs) (i : Nat) (val : Value) : RP w (W.setCell ⟨C, i, none⟩ val) v b R V C a e (cs.setIfInBounds i val) := by
  have hg := Lib.grownBy_setCell W C i val
  have hk : ∀ B, B ≠ C → ∀ x, W.heap[B]? = some x → (W.setCell ⟨C, i, none⟩ val).heap[B]? = some x := fun B hB x hx => by
    rw [hg.block B (Array.getElem?_eq_some_iff.1 hx).1 (by simpa using hB)]; exact hx
  refine ⟨⟨hk R h.nRC _ h.r.rd, h.r.bs.grown hg (h.off C (Nat.le_of_lt h.lC)), hk V h.nVC _ h.r.rv, h.r.off, h.r.ha, h.r.hl, h.r.nRV⟩, ?_, hk _ (by have := h.lC; omega) _ h.z, h.nRC, h.nVC, h.lR, h.lV, h.lC, h.below.grown hg h.below.size (fun k e => by cases e; exact Nat.le_of_lt h.lC), h.off⟩
  have hb := h.c
  unfold RrAt at *
  simp only [World.setCell, Array.getElem?_modify, hb, if_true, Option.map_some]
  rfl
theorem RP.same (h : RP w W v b R V C a e cs) (hs : RegT.Same W W') : RP w W' v b R V C a e cs := by
  have hk : Keeps W W' := fun k _ => by rw [hs.heap]
  exact ⟨h.r.keeps hk, h.c.keeps hk, h.z.keeps hk, h.nRC, h.nVC, h.lR, h.lV, h.lC, h.below.trans hs.below, h.off⟩
theorem RP.drew (h : RP w W v b R V C a e cs) : RP w W.drew v b R V C a e cs := ⟨h.r.keeps (Keeps.refl W).drew, h.c, h.z, h.nRC, h.nVC, h.lR, h.lV, h.lC, h.below.drew, h.off⟩
theorem RP.result (h : RP w W v b R V C a e cs) (ds : Array Value) : Below w.heap.size w (W.setRow w.heap.size ds) ∧ (W.setRow w.heap.size ds).heap[w.heap.size]? = some (.cells ds 36) ∧ ∀ {base : Nat} {t : TypeId} {c : Nat} {sv : Value} {n : Nat} {xs : List Value}, w.heap.size < base → W.ownsRow base t c sv n xs → (W.setRow w.heap.size ds).ownsRow base t c sv n xs := by
  have h1 : Below w.heap.size W (W.setRow w.heap.size ds) := ⟨rfl, rfl, rfl, by simp [World.setRow], fun k hk => setRow_other _ _ _ _ (by omega)⟩
  refine ⟨h.below.trans h1, setRow_heap _ _ _ _ _ _ h.z, fun hb ho => ?_⟩
  refine ⟨ho.1, ?_⟩
  rcases ho.2 with h2 | ⟨g, cap, cur, hv, hgb, hh, r⟩
  · exact .inl h2
  · exact .inr ⟨g, cap, cur, hv, hgb, by rw [setRow_other _ _ _ _ (by omega)]; exact hh, r⟩
end
/-- The beginning. -/
theorem RP.begin {w W1 : World} {v : Value} {b : List UInt8} {n a : Nat} {e : Int} (hb : RdB w v b) (hl : b.length ≤ 1000000)
    (hm : Moved (((w.alloc (.cells zR 36)).alloc (.cells #[v, .int .i64 0, .int .i64 0] 98)).alloc (.cells #[.pointer (some ⟨w.heap.size + 1, 0, none⟩)] 70)) W1 (w.heap.size + 1) v a e) (hs : Form.small b 0 0 999 = (n, a, e)) (cs : Array Value) :
    RP w (W1.alloc (.cells cs 36)) v b (w.heap.size + 1) (w.heap.size + 1 + 1) W1.heap.size a e cs := by
  obtain ⟨h1, h2⟩ := hm
  have hsz := h2.size
  simp only [heap_alloc_size] at hsz
  have hB3 : Below w.heap.size w (((w.alloc (.cells zR 36)).alloc (.cells #[v, .int .i64 0, .int .i64 0] 98)).alloc (.cells #[.pointer (some ⟨w.heap.size + 1, 0, none⟩)] 70)) :=
    (((Below.refl w.heap.size w).alloc (Nat.le_refl _) _).alloc (by rw [heap_alloc_size]; omega) _).alloc (by rw [heap_alloc_size, heap_alloc_size]; omega) _
  have hB : Below w.heap.size w W1 := hB3.grown h2 hB3.size (fun k e => by cases e; omega)
  have ha : a ≤ b.length := by have := small_at (b := b) (a := 0) (e := 0) (most := 999) (Nat.zero_le _); rw [hs] at this; exact this
  have hbw : RdB W1 v b := (((hb.keeps ((Keeps.refl w).alloc _)).keeps ((Keeps.refl _).alloc _)).keeps ((Keeps.refl _).alloc _)).grown h2 (hb.off (by omega))
  have o1 : (((w.alloc (.cells zR 36)).alloc (.cells #[v, .int .i64 0, .int .i64 0] 98)).alloc (.cells #[.pointer (some ⟨w.heap.size + 1, 0, none⟩)] 70)).heap[w.heap.size + 1 + 1]? = some (.cells #[.pointer (some ⟨w.heap.size + 1, 0, none⟩)] 70) := by
    have := heap_alloc_new ((w.alloc (.cells zR 36)).alloc (.cells #[v, .int .i64 0, .int .i64 0] 98)) (.cells #[.pointer (some ⟨w.heap.size + 1, 0, none⟩)] 70)
    simp only [heap_alloc_size] at this
    exact this
  have o2 : (((w.alloc (.cells zR 36)).alloc (.cells #[v, .int .i64 0, .int .i64 0] 98)).alloc (.cells #[.pointer (some ⟨w.heap.size + 1, 0, none⟩)] 70)).heap[w.heap.size]? = some (.cells zR 36) := by
    rw [Below.heap_alloc _ _ _ (by simp only [heap_alloc_size]; omega), Below.heap_alloc _ _ _ (by simp only [heap_alloc_size]; omega)]
    exact heap_alloc_new w _
  have k1 : W1.heap[w.heap.size + 1 + 1]? = some (.cells #[.pointer (some ⟨w.heap.size + 1, 0, none⟩)] 70) := by
    rw [h2.block _ (Array.getElem?_eq_some_iff.1 o1).1 (by simp)]; exact o1
  have k2 : W1.heap[w.heap.size]? = some (.cells zR 36) := by
    rw [h2.block _ (Array.getElem?_eq_some_iff.1 o2).1 (by simp)]; exact o2
  have hk : Keeps W1 (W1.alloc (.cells cs 36)) := (Keeps.refl W1).alloc _
  refine ⟨⟨h1.keeps hk, hbw.keeps hk, (hk _ (Array.getElem?_eq_some_iff.1 k1).1).trans k1, hb.off (by omega), ha, hl, by omega⟩, RrAt.new W1 cs, (hk _ (Array.getElem?_eq_some_iff.1 k2).1).trans k2, by omega, by omega, by omega, by omega, by omega, hB.alloc hB.size _, fun y hy => hb.off hy⟩
theorem rdn_of {w : World} {base : Nat} {t : TypeId} {k : IntKind} {sv : Value} {l : List Nat} (h : w.ownsRow base t 1 sv l.length (l.flatMap fun (n : Nat) => [Value.int k (n : Int)])) : RdN w sv k l := by
  have := own_rdc h
  unfold RdN
  rw [show (l.map fun (n : Nat) => Value.int k (n : Int)) = l.flatMap fun (n : Nat) => [Value.int k (n : Int)] from List.map_eq_flatMap]
  exact this

/-- The end: well, or not. -/
theorem RP.end_yes {w W : World} {v : Value} {b : List UInt8} {R V C a : Nat} {e : Int} {tv gv av : Value} {x : Rp} {B1 B2 B3 : Nat} (h : RP w W v b R V C a e (rpc x tv gv av)) (hx : RdW b x a e) (hd : Form.done b.length a e = 0)
    (h1 : W.ownsRow B1 62 4 tv x.trades.length (x.trades.flatMap Tr.cells)) (h2 : W.ownsRow B2 24 1 gv x.gone.length (x.gone.flatMap fun (n : Nat) => [Value.int .u64 (n : Int)])) (h3 : W.ownsRow B3 23 1 av x.accounts.length (x.accounts.flatMap fun (n : Nat) => [Value.int .u32 (n : Int)]))
    (l1 : w.heap.size < B1) (l2 : w.heap.size < B2) (l3 : w.heap.size < B3) : RpAns w b (.returned (.tuple #[.agg (rpc x tv gv av), .int .i64 0])) (W.setRow w.heap.size (rpc x tv gv av)) := by
  obtain ⟨k1, _, k3⟩ := h.result (rpc x tv gv av)
  exact ⟨.inl ⟨x, tv, gv, av, rfl, ⟨own_rdc (k3 l1 h1), rdn_of (k3 l2 h2), rdn_of (k3 l3 h3), hx.ok⟩, hx.yes h.r.ha hd⟩, k1⟩
theorem RP.end_no {w W : World} {v : Value} {b : List UInt8} {R V C a : Nat} {e : Int} {cs : Array Value} {x : Rp} (h : RP w W v b R V C a e cs) (hx : RdW b x a e) (hd : Form.done b.length a e ≠ 0) : RpAns w b (.returned (.tuple #[.agg zR, .int .i64 5])) (W.setRow w.heap.size zR) :=
  ⟨.inr ⟨rfl, hx.no hd⟩, (h.result zR).1⟩
theorem zR_one : zR.all (·.oneCell') = true := by simp [zR, Value.oneCell']
theorem own_none (w : World) (base : Nat) (t : TypeId) (c : Nat) : w.ownsRow base t c (.slice none 0 0) 0 [] := World.ownsRow_nil _ _ _ _
set_option maxRecDepth 100000 in
set_option maxHeartbeats 6400000 in
/-- Bytes of an error. -/
theorem read17_err_w (v : Value) (b : List UInt8) (w : World) (hb : RdB w v b) (hl : b.length ≤ 1000000) (k : Nat) (hkd : (Form.small b 0 0 999).1 = k) (hk0 : k ≠ 0) : Calls Try.prog 17 #[v] w (RpAns w b) := by
  obtain ⟨p, c, rfl, hpt⟩ := hb
  have HBv := Lib.hid (show RdB w (.slice p b.length c) b from ⟨p, c, rfl, hpt⟩)
  obtain ⟨zc, hzc⟩ : ∃ zc, zR = zc := ⟨_, rfl⟩
  have HBn := Lib.hid (((HBv.out.keeps ((Keeps.refl w).alloc (.cells zc 36))).keeps ((Keeps.refl _).alloc (.cells #[.slice p b.length c, .int .i64 0, .int .i64 0] 98))).keeps ((Keeps.refl _).alloc (.cells #[.pointer (some ⟨w.heap.size + 1, 0, none⟩)] 70)))
  have Hkd := Lib.hid hkd
  have Hl := Lib.hid hl
  have Hk9 := Lib.hid (show k ≤ 999 from by rw [← hkd]; exact small_top b 0 0 999)
  have hwk : IntKind.i64.wrap (k : Int) = (k : Int) := IntWalk.i64_in _ (by have := Hk9.out; omega)
  have hke : ((k : Int) == 0) = false := by simp; omega
  clear hpt hkd
  have hz := hz36
  rw [hzc] at hz
  have Hzc := Lib.hid hzc
  have hzs : zc.size = 7 := by rw [← hzc]; rfl
  have HZo := Lib.hid (show zc.all (·.oneCell') = true by rw [← hzc]; exact zR_one)
  clear hzc
  have HRd := Lib.hid (show Rdr (((w.alloc (.cells zc 36)).alloc (.cells #[.slice p b.length c, .int .i64 0, .int .i64 0] 98)).alloc (.cells #[.pointer (some ⟨w.heap.size + 1, 0, none⟩)] 70)) (w.heap.size + 1) (.slice p b.length c) 0 0 from by
    unfold Rdr
    rw [Below.heap_alloc _ _ _ (by simp)]
    have := heap_alloc_new (w.alloc (.cells zc 36)) (.cells #[.slice p b.length c, .int .i64 0, .int .i64 0] 98)
    rw [heap_alloc_size] at this
    exact this)
  obtain ⟨kc, hkc⟩ : ∃ kc, kR k = kc := ⟨_, rfl⟩
  have hks : kc.size = 7 := by rw [← hkc]; rfl
  have HK1 := Lib.hid (show kc.all (·.oneCell') = true by rw [← hkc]; unfold kR; simp [Value.oneCell'])
  have Hkc := Lib.hid hkc
  have K0 := Lib.hid (show kc[0]? = some (.int .i64 (k : Int)) by rw [← hkc]; rfl)
  clear hkc
  go_enter Try.func17, Try.ntmps17
  go_upto_region 3 with (first
    | (refine wpList_alloc_zero rfl 36 rfl _ hz ?_)
    | (go_at_call 41; (with_reducible refine (new_w p b.length c _).mono ?_); rintro r w1 ⟨rfl, rfl⟩)
    | (go_at_call 42; (with_reducible refine (small_z (w.heap.size + 1) (.slice p b.length c) b 0 0 999 999 rfl _ HRd.out HBn.out (Nat.zero_le _) hl (by decide)).mono ?_); rintro r w2 ⟨n, a0, e0, hs, rfl, hm⟩; have HS := Lib.hid hs; have HM := Lib.hid hm; obtain rfl : n = k := (by have h := Hkd.out; rw [hs] at h; exact h); clear hs hm)
    | (refine wpList_plain_value (v := .agg kc) rfl (by rw [← Hkc.out]; exact exec_build36 n (.tmp 10) rfl rfl) ?_)
    | (refine wpList_store_rowTo rfl 36 (.tmp 5) (.tmp 11) rfl rfl _ kc rfl rfl 36 zc (heap_alloc_new w2 _) (show _ = some kc.size by rw [hks]; kernel_rfl) (by rw [hks, hzs]) HK1.out ?_))
  rw [alloc_setRow]
  have HC0 := Lib.hid (show RP w (w2.alloc (.cells kc 36)) (.slice p b.length c) b (w.heap.size + 1) (w.heap.size + 1 + 1) w2.heap.size a0 e0 kc from RP.begin HBv.out Hl.out (by rw [Hzc.out]; exact HM.out) HS.out kc)
  obtain ⟨W0, hW0⟩ : ∃ W0, w2.alloc (.cells kc 36) = W0 := ⟨_, rfl⟩
  rw [hW0] at HC0
  rw [hW0]
  obtain ⟨C, hC⟩ : ∃ C, w2.heap.size = C := ⟨_, rfl⟩
  rw [hC] at HC0
  rw [hC]
  obtain ⟨V, hV⟩ : ∃ V, w.heap.size + 1 + 1 = V := ⟨_, rfl⟩
  rw [hV] at HC0
  rw [hV]
  obtain ⟨R, hR⟩ : ∃ R, w.heap.size + 1 = R := ⟨_, rfl⟩
  rw [hR] at HC0
  clear hW0 hC hV hR HRd HBn HBv HM
  have HX := Lib.hid (show RdW b ⟨(n : Int), 0, 0, 0, [], [], []⟩ a0 e0 from by
    unfold RdW RdRp
    rw [HS.out]
    exact .inl ⟨hk0, rfl, rfl⟩)
  have k0 := (HC0.out.at 0).trans K0.out
  have v0 := HC0.out.r.var
  obtain ⟨d, hd⟩ : ∃ d, Form.done b.length a0 e0 = d := ⟨_, rfl⟩
  have HD := Lib.hid hd
  have HDn := Lib.hid (fun W' (h : RP w W' (.slice p b.length c) b R V C a0 e0 kc) => (show Calls Try.prog 50 #[.pointer (some ⟨R, 0, none⟩)] W' fun r w' => r = .returned (.int .i64 d) ∧ RegT.Same W' w' from by rw [← hd]; exact done_w R _ b a0 e0 W' h.r.rd h.r.bs h.r.ha))
  clear hd hk0
  by_cases h0 : d = 0
  · subst h0
    go_wp2_with (first
      | (go_at_call 50; (with_reducible refine (HDn.out _ HC0.out).mono ?_); rintro r w8 ⟨rfl, hS⟩; have HC8 := Lib.hid (HC0.out.same hS); clear hS)
      | (refine wpList_load_rr rfl (.tmp 5) rfl rfl HC8.out.c hks ?_)
      | (refine wpList_store_rowTo rfl 36 (.tmp 2) (.tmp 41) rfl rfl _ kc rfl rfl 36 zc (by rw [← Hzc.out]; exact HC8.out.z) (show _ = some kc.size by rw [hks]; kernel_rfl) (by rw [hks, hzs]) HK1.out ?_))
    obtain ⟨hend, hres, _⟩ := HC8.out.result kc
    refine bodyPost_ret (v := .tuple #[.agg kc, .int .i64 0]) (results_cell_tmp rfl _ _ w.heap.size 36 _ _ _ _ rfl rfl hres rfl Try.underlying36 (show _ = some kc.size by rw [hks]; kernel_rfl)) rfl ?_
    have hE := HC8.out
    have hkk : kc = rpc ⟨(n : Int), 0, 0, 0, [], [], []⟩ (.slice none 0 0) (.slice none 0 0) (.slice none 0 0) := Hkc.out.symm
    rw [hkk] at hE ⊢
    exact RP.end_yes hE HX.out HD.out (own_none _ _ _ _) (own_none _ _ _ _) (own_none _ _ _ _) (Nat.lt_succ_self _) (Nat.lt_succ_self _) (Nat.lt_succ_self _)
  · have hdn : (d != 0) = true := by simpa using h0
    have HD0 := Lib.hid (show Form.done b.length a0 e0 ≠ 0 from by rw [HD.out]; exact h0)
    clear h0
    go_wp2_with (first
      | (go_at_call 50; (with_reducible refine (HDn.out _ HC0.out).mono ?_); rintro r w8 ⟨rfl, hS⟩; have HC8 := Lib.hid (HC0.out.same hS); clear hS)
      | (refine wpList_plain_value (v := .agg zc) rfl (by rw [← Hzc.out]; exact exec_build36e rfl) ?_)
      | (refine wpList_store_rowTo rfl 36 (.tmp 2) (.tmp 40) rfl rfl _ zc rfl rfl 36 zc (by rw [← Hzc.out]; exact HC8.out.z) (show _ = some zc.size by rw [hzs]; kernel_rfl) rfl HZo.out ?_))
    obtain ⟨hend, hres, _⟩ := HC8.out.result zc
    refine bodyPost_ret (v := .tuple #[.agg zc, .int .i64 5]) (results_cell_tmp rfl _ _ w.heap.size 36 _ _ _ _ rfl rfl hres rfl Try.underlying36 (show _ = some zc.size by rw [hzs]; kernel_rfl)) rfl ?_
    have hE := RP.end_no HC8.out HX.out HD0.out
    rw [Hzc.out] at hE
    exact hE
end Go.Proofs.Ytoflehlkacofjaa
