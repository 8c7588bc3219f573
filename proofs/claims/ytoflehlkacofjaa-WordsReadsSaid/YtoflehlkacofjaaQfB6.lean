/- words.ReadCommand: the walk, kind by kind. -/
import Derived.Test.YtoflehlkacofjaaQfB5
import Derived.Deep.Cut
namespace Go.Proofs.Ytoflehlkacofjaa
open Go.ChangeShapes Go.WideShapes Go.ChangeAt Go.RowKit
set_option linter.unusedVariables false
theorem built30e : Try.prog.built 30 [] = some zC := by kernel_rfl
theorem exec_build30e {o : Oper} {e : Operand → Value} {W : World} (ho : o.op = .build 30 #[]) : (execOp e o).run Try.prog W = .ok (.value (.agg zC)) W := by
  have h := run_build (P := Try.prog) W 30 #[] zC built30e
  unfold execOp
  simp only [ho]
  simp [h]
theorem wpList_plain_value {ops : Array Oper} {rest : List Oper} {o : Oper} {a : Act} {w : World} {Q : Exit → Act → World → Prop} {v : Value} (hw : Region.wanted o (yielded ops a.tmps) = true) (he : (execOp a.eval o).run Try.prog w = .ok (.value v) w)
    (k : wpList Try.prog ops Q rest (a.put o.dst v) w) : wpList Try.prog ops Q (o :: rest) a w := by
  unfold wpList
  rw [if_pos hw]
  refine .inl ?_
  unfold Oper.wp
  rw [he]
  exact k
/-- The beginning: the result, the reader, its variable, the command. -/
theorem RC.begin {w W1 : World} {v : Value} {b : List UInt8} {n a : Nat} {e : Int} (hb : RdB w v b) (hl : b.length ≤ 1000000)
    (hm : Moved (((w.alloc (.cells zC 30)).alloc (.cells #[v, .int .i64 0, .int .i64 0] 98)).alloc (.cells #[.pointer (some ⟨w.heap.size + 1, 0, none⟩)] 70)) W1 (w.heap.size + 1) v a e) (hs : Form.small b 0 0 14 = (n, a, e)) :
    RC w (W1.alloc (.cells (kC n) 30)) v b (w.heap.size + 1) (w.heap.size + 1 + 1) W1.heap.size (Cm.rd0 b) := by
  obtain ⟨h1, h2⟩ := hm
  have hsz := h2.size
  simp only [heap_alloc_size] at hsz
  have hB3 : Below w.heap.size w (((w.alloc (.cells zC 30)).alloc (.cells #[v, .int .i64 0, .int .i64 0] 98)).alloc (.cells #[.pointer (some ⟨w.heap.size + 1, 0, none⟩)] 70)) :=
    (((Below.refl w.heap.size w).alloc (Nat.le_refl _) _).alloc (by rw [heap_alloc_size]; omega) _).alloc (by rw [heap_alloc_size, heap_alloc_size]; omega) _
  have hB : Below w.heap.size w W1 := hB3.grown h2 hB3.size (fun k e => by cases e; omega)
  have e0 : Cm.rd0 b = (Cm.start n, a, e) := by unfold Cm.rd0; rw [hs]
  have hn : n ≤ 14 := by have := small_top b 0 0 14; rw [hs] at this; exact this
  have ha : a ≤ b.length := by have := small_at (b := b) (a := 0) (e := 0) (most := 14) (Nat.zero_le _); rw [hs] at this; exact this
  have hbw : RdB W1 v b := (((hb.keeps ((Keeps.refl w).alloc _)).keeps ((Keeps.refl _).alloc _)).keeps ((Keeps.refl _).alloc _)).grown h2 (hb.off (by omega))
  have o1 : (((w.alloc (.cells zC 30)).alloc (.cells #[v, .int .i64 0, .int .i64 0] 98)).alloc (.cells #[.pointer (some ⟨w.heap.size + 1, 0, none⟩)] 70)).heap[w.heap.size + 1 + 1]? = some (.cells #[.pointer (some ⟨w.heap.size + 1, 0, none⟩)] 70) := by
    have := heap_alloc_new ((w.alloc (.cells zC 30)).alloc (.cells #[v, .int .i64 0, .int .i64 0] 98)) (.cells #[.pointer (some ⟨w.heap.size + 1, 0, none⟩)] 70)
    simpa using this
  have o2 : (((w.alloc (.cells zC 30)).alloc (.cells #[v, .int .i64 0, .int .i64 0] 98)).alloc (.cells #[.pointer (some ⟨w.heap.size + 1, 0, none⟩)] 70)).heap[w.heap.size]? = some (.cells zC 30) := by
    rw [Below.heap_alloc _ _ _ (by rw [heap_alloc_size, heap_alloc_size]; omega), Below.heap_alloc _ _ _ (by rw [heap_alloc_size]; omega)]; exact heap_alloc_new w _
  have hk : ∀ B, B ≠ w.heap.size + 1 → ∀ x, (((w.alloc (.cells zC 30)).alloc (.cells #[v, .int .i64 0, .int .i64 0] 98)).alloc (.cells #[.pointer (some ⟨w.heap.size + 1, 0, none⟩)] 70)).heap[B]? = some x → (W1.alloc (.cells (kC n) 30)).heap[B]? = some x := fun B hB x hx => by
    have hlt := (Array.getElem?_eq_some_iff.1 hx).1
    rw [Below.heap_alloc _ _ _ (by simp at hlt; omega), h2.block B hlt (by simpa using hB)]; exact hx
  rw [e0]
  refine ⟨h1.keeps ((Keeps.refl W1).alloc _), hbw.keeps ((Keeps.refl W1).alloc _), hk _ (by omega) _ o1, CcAt.new W1 _, hk _ (by omega) _ o2, fun y hy => hb.off hy, ha, hl, Cm.start_ok n (by omega), by omega, by omega, by omega, by omega, by omega, by omega, hB.alloc hB.size _⟩
/-- What ReadCommand answers. -/
def RdAns (w : World) (b : List UInt8) (e : Ending) (w' : World) : Prop :=
  e = .returned (.tuple #[.agg (if Cm.rdOk b then (Cm.rd b).1.cells else zC), .int .i64 (if Cm.rdOk b then 0 else 5)]) ∧ Below w.heap.size w w'
theorem rdAns_yes {w w' : World} {b : List UInt8} {s : Cm.St} (hs : Cm.rd b = s) (hd : Form.done b.length s.2.1 s.2.2 = 0) (hm : s.1.mayB = true) (h : Below w.heap.size w w') : RdAns w b (.returned (.tuple #[.agg s.1.cells, .int .i64 0])) w' := by
  have e : Cm.rdOk b = true := by unfold Cm.rdOk; rw [hs, hm]; simp [hd]
  refine ⟨?_, h⟩
  rw [if_pos e, if_pos e, hs]
theorem rdAns_no {w w' : World} {b : List UInt8} {s : Cm.St} (hs : Cm.rd b = s) (hd : Form.done b.length s.2.1 s.2.2 ≠ 0 ∨ s.1.mayB = false) (h : Below w.heap.size w w') : RdAns w b (.returned (.tuple #[.agg zC, .int .i64 5])) w' := by
  have e : Cm.rdOk b = false := by
    unfold Cm.rdOk
    rw [hs]
    rcases hd with hd | hd
    · simp [hd]
    · simp [hd]
  refine ⟨?_, h⟩
  rw [e]; rfl
theorem RC.result {w W : World} {v : Value} {b : List UInt8} {R V C : Nat} {s : Cm.St} (h : RC w W v b R V C s) (ds : Array Value) : Below w.heap.size w (W.setRow w.heap.size ds) ∧ (W.setRow w.heap.size ds).heap[w.heap.size]? = some (.cells ds 30) := by
  have h1 : Below w.heap.size W (W.setRow w.heap.size ds) := ⟨rfl, rfl, rfl, by simp [World.setRow], fun k hk => setRow_other _ _ _ _ (by omega)⟩
  exact ⟨h.below.trans h1, setRow_heap _ _ _ _ _ _ h.rz⟩
theorem zC_one : zC.all (·.oneCell') = true := cmc_one ..
theorem Cm.cells_one (x : Cm) : x.cells.all (·.oneCell') = true := cmc_one ..
set_option maxRecDepth 100000 in
set_option maxHeartbeats 12800000 in
theorem read21_0_w (v : Value) (b : List UInt8) (w : World) (hb : RdB w v b) (hl : b.length ≤ 1000000) (hkd : (Form.small b 0 0 14).1 = 0) : Calls Try.prog 21 #[v] w (RdAns w b) := by
  obtain ⟨p, c, rfl, hpt⟩ := hb
  have HBv := Lib.hid (show RdB w (.slice p b.length c) b from ⟨p, c, rfl, hpt⟩)
  have HBn := Lib.hid (((HBv.out.keeps ((Keeps.refl w).alloc (.cells zC 30))).keeps ((Keeps.refl _).alloc (.cells #[.slice p b.length c, .int .i64 0, .int .i64 0] 98))).keeps ((Keeps.refl _).alloc (.cells #[.pointer (some ⟨w.heap.size + 1, 0, none⟩)] 70)))
  have Hkd := Lib.hid hkd
  have Hl := Lib.hid hl
  clear hpt hkd
  obtain ⟨zc, hzc⟩ : ∃ zc, zC = zc := ⟨_, rfl⟩
  have hz := hz30
  rw [hzc] at hz
  rw [hzc] at HBn
  have Hzc := Lib.hid hzc
  have hzs : zc.size = 35 := by rw [← hzc]; rfl
  clear hzc
  have HRd := Lib.hid (show Rdr (((w.alloc (.cells zc 30)).alloc (.cells #[.slice p b.length c, .int .i64 0, .int .i64 0] 98)).alloc (.cells #[.pointer (some ⟨w.heap.size + 1, 0, none⟩)] 70)) (w.heap.size + 1) (.slice p b.length c) 0 0 from by
    unfold Rdr
    rw [Below.heap_alloc _ _ _ (by simp)]
    have := heap_alloc_new (w.alloc (.cells zc 30)) (.cells #[.slice p b.length c, .int .i64 0, .int .i64 0] 98)
    rw [heap_alloc_size] at this
    exact this)
  obtain ⟨kc, hkc⟩ : ∃ kc, kC 0 = kc := ⟨_, rfl⟩
  have hks : kc.size = 35 := by rw [← hkc]; rfl
  have HK1 := Lib.hid (show kc.all (·.oneCell') = true by rw [← hkc]; exact cmc_one ..)
  have Hkc := Lib.hid hkc
  clear hkc
  go_enter Try.func21, Try.ntmps21
  go_upto_region 3 with (first
    | (refine wpList_alloc_zero rfl 30 rfl _ hz ?_)
    | (go_at_call 41; (with_reducible refine (new_w p b.length c _).mono ?_); rintro r w1 ⟨rfl, rfl⟩)
    | (go_at_call 42; (with_reducible refine (small_z (w.heap.size + 1) (.slice p b.length c) b 0 0 14 14 rfl _ HRd.out HBn.out (Nat.zero_le _) hl (by decide)).mono ?_); rintro r w2 ⟨n, a0, e0, hs, rfl, hm⟩; have HS := Lib.hid hs; have HM := Lib.hid hm; obtain rfl : n = 0 := (by have h := Hkd.out; rw [hs] at h; exact h); clear hs hm)
    | (refine wpList_plain_value (v := .agg kc) rfl (by rw [← Hkc.out]; exact exec_build30 0 (.tmp 13) rfl rfl) ?_)
    | (refine wpList_store_rowTo rfl 30 (.tmp 5) (.tmp 14) rfl rfl _ kc rfl rfl 30 zc (heap_alloc_new w2 _) (show _ = some kc.size by rw [hks]; kernel_rfl) (by rw [hks, hzs]) HK1.out ?_))
  rw [alloc_setRow]
  have HC0 := Lib.hid (show RC w (w2.alloc (.cells kc 30)) (.slice p b.length c) b (w.heap.size + 1) (w.heap.size + 1 + 1) w2.heap.size (Cm.rd0 b) from by rw [← Hkc.out]; exact RC.begin HBv.out Hl.out (by rw [Hzc.out]; exact HM.out) HS.out)
  obtain ⟨W0, hW0⟩ : ∃ W0, w2.alloc (.cells kc 30) = W0 := ⟨_, rfl⟩
  rw [hW0] at HC0
  rw [hW0]
  obtain ⟨C, hC⟩ : ∃ C, w2.heap.size = C := ⟨_, rfl⟩
  rw [hC] at HC0
  rw [hC]
  obtain ⟨V, hV⟩ : ∃ V, w.heap.size + 1 + 1 = V := ⟨_, rfl⟩
  rw [hV] at HC0
  rw [hV]
  obtain ⟨R, hR⟩ : ∃ R, w.heap.size + 1 = R := ⟨_, rfl⟩
  rw [hR] at HC0
  clear hW0 hC hV hR HRd HBn HBv HM
  have Hfin := Lib.hid (show Cm.rd b = (flds 0).foldl (Cm.rdL b) (Cm.rd0 b) from by unfold Cm.rd; rw [HS.out])
  have Hk0 := Lib.hid (show (Cm.rd0 b).1.cells[0]? = some (.int .u8 0) from by unfold Cm.rd0; rw [HS.out]; rfl)
  obtain ⟨s0, hs0⟩ : ∃ s, Cm.rd0 b = s := ⟨_, rfl⟩
  rw [hs0] at HC0 Hfin Hk0
  clear hs0 HS
  have k0 := (HC0.out.at 0).trans Hk0.out
  have v0 := HC0.out.var
  go_upto_region 47 with (fail)
  have hfin : Cm.rd b = s0 := by rw [Hfin.out]; rfl
  have Hfi := Lib.hid hfin
  have Hok := Lib.hid HC0.out.ok
  have HC := HC0
  have hv := HC.out.var
  clear hfin v0 k0
  obtain ⟨WL, hWL⟩ : ∃ WL, W0 = WL := ⟨_, rfl⟩
  rw [hWL] at HC hv
  rw [hWL]
  clear hWL
  obtain ⟨cf, hcf⟩ : ∃ cf, s0.1.cells = cf := ⟨_, rfl⟩
  have HCc := Lib.hid (show ∀ W, RC w W (.slice p b.length c) b R V C s0 → CcAt W C cf from fun W h => by rw [← hcf]; exact h.c)
  have hcs : cf.size = 35 := by rw [← hcf]; rfl
  have HCo := Lib.hid (show cf.all (·.oneCell') = true by rw [← hcf]; exact Cm.cells_one _)
  have HZo := Lib.hid (show zc.all (·.oneCell') = true by rw [← Hzc.out]; exact zC_one)
  have HMy := Lib.hid (fun W => (show Calls Try.prog 19 #[.agg cf] W fun e w' => e = .returned (.bool s0.1.mayB) ∧ Below W.heap.size W w' from by rw [← hcf]; exact may19_w s0.1 Hok.out W))
  have Hcf := Lib.hid hcf
  have HCz := Lib.hid (show ∀ W, RC w W (.slice p b.length c) b R V C s0 → W.heap[w.heap.size]? = some (.cells zc 30) from fun W h => by rw [← Hzc.out]; exact h.rz)
  clear hcf
  obtain ⟨d, hd⟩ : ∃ d, Form.done b.length s0.2.1 s0.2.2 = d := ⟨_, rfl⟩
  have HD := Lib.hid hd
  have HDn := Lib.hid (show Calls Try.prog 50 #[.pointer (some ⟨R, 0, none⟩)] WL fun r w' => r = .returned (.int .i64 d) ∧ RegT.Same WL w' from by rw [← hd]; exact done_w R _ b s0.2.1 s0.2.2 WL HC.out.rd HC.out.bs HC.out.ha)
  clear hd
  by_cases h0 : d = 0
  · subst h0
    cases hm : s0.1.mayB with
    | true =>
      have HMt := Lib.hid hm
      rw [hm] at HMy
      clear hm
      go_wp2_with (first
        | (go_at_call 50; (with_reducible refine (HDn.out).mono ?_); rintro r w8 ⟨rfl, hS⟩; have HC8 := Lib.hid (HC.out.same hS); clear hS)
        | (refine wpList_load_cc rfl (.tmp 5) rfl rfl (HCc.out _ HC8.out) hcs ?_)
        | (go_at_call 19; (with_reducible refine (HMy.out _).mono ?_); rintro r w9 ⟨rfl, hB⟩; have HC9 := Lib.hid (HC8.out.keep hB); clear hB)
        | (refine wpList_load_cc rfl (.tmp 5) rfl rfl (HCc.out _ HC9.out) hcs ?_)
        | (refine wpList_store_rowTo rfl 30 (.tmp 2) (.tmp 119) rfl rfl _ cf rfl rfl 30 zc (HCz.out _ HC9.out) (show _ = some cf.size by rw [hcs]; kernel_rfl) (by rw [hcs, hzs]) HCo.out ?_))
      obtain ⟨hend, hres⟩ := HC9.out.result cf
      refine bodyPost_ret (v := .tuple #[.agg cf, .int .i64 0]) (results_cell_tmp rfl _ _ w.heap.size 30 _ _ _ _ rfl rfl hres rfl Try.underlying30 (show _ = some cf.size by rw [hcs]; kernel_rfl)) rfl ?_
      have ha := rdAns_yes Hfi.out HD.out HMt.out hend
      rw [Hcf.out] at ha
      exact ha
    | false =>
      have HMt := Lib.hid hm
      rw [hm] at HMy
      clear hm
      go_wp2_with (first
        | (go_at_call 50; (with_reducible refine (HDn.out).mono ?_); rintro r w8 ⟨rfl, hS⟩; have HC8 := Lib.hid (HC.out.same hS); clear hS)
        | (refine wpList_load_cc rfl (.tmp 5) rfl rfl (HCc.out _ HC8.out) hcs ?_)
        | (go_at_call 19; (with_reducible refine (HMy.out _).mono ?_); rintro r w9 ⟨rfl, hB⟩; have HC9 := Lib.hid (HC8.out.keep hB); clear hB)
        | (refine wpList_plain_value (v := .agg zc) rfl (by rw [← Hzc.out]; exact exec_build30e rfl) ?_)
        | (refine wpList_store_rowTo rfl 30 (.tmp 2) (.tmp 118) rfl rfl _ zc rfl rfl 30 zc (HCz.out _ HC9.out) (show _ = some zc.size by rw [hzs]; kernel_rfl) rfl HZo.out ?_))
      obtain ⟨hend, hres⟩ := HC9.out.result zc
      refine bodyPost_ret (v := .tuple #[.agg zc, .int .i64 5]) (results_cell_tmp rfl _ _ w.heap.size 30 _ _ _ _ rfl rfl hres rfl Try.underlying30 (show _ = some zc.size by rw [hzs]; kernel_rfl)) rfl ?_
      have ha := rdAns_no Hfi.out (.inr HMt.out) hend
      rw [Hzc.out] at ha
      exact ha
  · have hdn : (d != 0) = true := by simpa using h0
    have HD0 := Lib.hid (show Form.done b.length s0.2.1 s0.2.2 ≠ 0 from by rw [HD.out]; exact h0)
    clear h0
    go_wp2_with (first
      | (go_at_call 50; (with_reducible refine (HDn.out).mono ?_); rintro r w8 ⟨rfl, hS⟩; have HC8 := Lib.hid (HC.out.same hS); clear hS)
      | (refine wpList_plain_value (v := .agg zc) rfl (by rw [← Hzc.out]; exact exec_build30e rfl) ?_)
      | (refine wpList_store_rowTo rfl 30 (.tmp 2) (.tmp 118) rfl rfl _ zc rfl rfl 30 zc (HCz.out _ HC8.out) (show _ = some zc.size by rw [hzs]; kernel_rfl) rfl HZo.out ?_))
    obtain ⟨hend, hres⟩ := HC8.out.result zc
    refine bodyPost_ret (v := .tuple #[.agg zc, .int .i64 5]) (results_cell_tmp rfl _ _ w.heap.size 30 _ _ _ _ rfl rfl hres rfl Try.underlying30 (show _ = some zc.size by rw [hzs]; kernel_rfl)) rfl ?_
    have ha := rdAns_no Hfi.out (.inl HD0.out) hend
    rw [Hzc.out] at ha
    exact ha

set_option maxRecDepth 100000 in
set_option maxHeartbeats 12800000 in
theorem read21_1_w (v : Value) (b : List UInt8) (w : World) (hb : RdB w v b) (hl : b.length ≤ 1000000) (hkd : (Form.small b 0 0 14).1 = 1) : Calls Try.prog 21 #[v] w (RdAns w b) := by
  obtain ⟨p, c, rfl, hpt⟩ := hb
  have HBv := Lib.hid (show RdB w (.slice p b.length c) b from ⟨p, c, rfl, hpt⟩)
  have HBn := Lib.hid (((HBv.out.keeps ((Keeps.refl w).alloc (.cells zC 30))).keeps ((Keeps.refl _).alloc (.cells #[.slice p b.length c, .int .i64 0, .int .i64 0] 98))).keeps ((Keeps.refl _).alloc (.cells #[.pointer (some ⟨w.heap.size + 1, 0, none⟩)] 70)))
  have Hkd := Lib.hid hkd
  have Hl := Lib.hid hl
  clear hpt hkd
  obtain ⟨zc, hzc⟩ : ∃ zc, zC = zc := ⟨_, rfl⟩
  have hz := hz30
  rw [hzc] at hz
  rw [hzc] at HBn
  have Hzc := Lib.hid hzc
  have hzs : zc.size = 35 := by rw [← hzc]; rfl
  clear hzc
  have HRd := Lib.hid (show Rdr (((w.alloc (.cells zc 30)).alloc (.cells #[.slice p b.length c, .int .i64 0, .int .i64 0] 98)).alloc (.cells #[.pointer (some ⟨w.heap.size + 1, 0, none⟩)] 70)) (w.heap.size + 1) (.slice p b.length c) 0 0 from by
    unfold Rdr
    rw [Below.heap_alloc _ _ _ (by simp)]
    have := heap_alloc_new (w.alloc (.cells zc 30)) (.cells #[.slice p b.length c, .int .i64 0, .int .i64 0] 98)
    rw [heap_alloc_size] at this
    exact this)
  obtain ⟨kc, hkc⟩ : ∃ kc, kC 1 = kc := ⟨_, rfl⟩
  have hks : kc.size = 35 := by rw [← hkc]; rfl
  have HK1 := Lib.hid (show kc.all (·.oneCell') = true by rw [← hkc]; exact cmc_one ..)
  have Hkc := Lib.hid hkc
  clear hkc
  go_enter Try.func21, Try.ntmps21
  go_upto_region 3 with (first
    | (refine wpList_alloc_zero rfl 30 rfl _ hz ?_)
    | (go_at_call 41; (with_reducible refine (new_w p b.length c _).mono ?_); rintro r w1 ⟨rfl, rfl⟩)
    | (go_at_call 42; (with_reducible refine (small_z (w.heap.size + 1) (.slice p b.length c) b 0 0 14 14 rfl _ HRd.out HBn.out (Nat.zero_le _) hl (by decide)).mono ?_); rintro r w2 ⟨n, a0, e0, hs, rfl, hm⟩; have HS := Lib.hid hs; have HM := Lib.hid hm; obtain rfl : n = 1 := (by have h := Hkd.out; rw [hs] at h; exact h); clear hs hm)
    | (refine wpList_plain_value (v := .agg kc) rfl (by rw [← Hkc.out]; exact exec_build30 1 (.tmp 13) rfl rfl) ?_)
    | (refine wpList_store_rowTo rfl 30 (.tmp 5) (.tmp 14) rfl rfl _ kc rfl rfl 30 zc (heap_alloc_new w2 _) (show _ = some kc.size by rw [hks]; kernel_rfl) (by rw [hks, hzs]) HK1.out ?_))
  rw [alloc_setRow]
  have HC0 := Lib.hid (show RC w (w2.alloc (.cells kc 30)) (.slice p b.length c) b (w.heap.size + 1) (w.heap.size + 1 + 1) w2.heap.size (Cm.rd0 b) from by rw [← Hkc.out]; exact RC.begin HBv.out Hl.out (by rw [Hzc.out]; exact HM.out) HS.out)
  obtain ⟨W0, hW0⟩ : ∃ W0, w2.alloc (.cells kc 30) = W0 := ⟨_, rfl⟩
  rw [hW0] at HC0
  rw [hW0]
  obtain ⟨C, hC⟩ : ∃ C, w2.heap.size = C := ⟨_, rfl⟩
  rw [hC] at HC0
  rw [hC]
  obtain ⟨V, hV⟩ : ∃ V, w.heap.size + 1 + 1 = V := ⟨_, rfl⟩
  rw [hV] at HC0
  rw [hV]
  obtain ⟨R, hR⟩ : ∃ R, w.heap.size + 1 = R := ⟨_, rfl⟩
  rw [hR] at HC0
  clear hW0 hC hV hR HRd HBn HBv HM
  have Hfin := Lib.hid (show Cm.rd b = (flds 1).foldl (Cm.rdL b) (Cm.rd0 b) from by unfold Cm.rd; rw [HS.out])
  have Hk0 := Lib.hid (show (Cm.rd0 b).1.cells[0]? = some (.int .u8 1) from by unfold Cm.rd0; rw [HS.out]; rfl)
  obtain ⟨s0, hs0⟩ : ∃ s, Cm.rd0 b = s := ⟨_, rfl⟩
  rw [hs0] at HC0 Hfin Hk0
  clear hs0 HS
  have k0 := (HC0.out.at 0).trans Hk0.out
  have v0 := HC0.out.var
  go_upto_region 47 with (first
    | (go_at_call 58; (with_reducible refine (acct58_w HC0.out).mono ?_); rintro r W1 ⟨rfl, hC⟩; obtain ⟨s1, hq1⟩ : ∃ s, Cm.rdL b s0 97 = s := ⟨_, rfl⟩; rw [hq1] at hC; have HQ1 := Lib.hid hq1; have HC1 := Lib.hid hC; clear hC hq1; have v1 := HC1.out.var)
    | (go_at_call 44; (with_reducible refine (rint_w R _ b s1.2.1 s1.2.2 _ HC1.out.rd HC1.out.bs HC1.out.ha HC1.out.hl).mono ?_); rintro r W2 ⟨n2, a2, e2, hs, rfl, hm⟩; have HM2 := Lib.hid (HC1.out.nums hs hm); have y2 := (HM2.out.at 4).trans (show _ = some (Value.int .i64 s1.1.amount) from rfl); have z2 := HM2.out.thaw 4; have hC := HC1.out.l109 hs hm; clear hs hm; obtain ⟨s2, hq2⟩ : ∃ s, Cm.rdL b s1 109 = s := ⟨_, rfl⟩; rw [hq2] at hC; have HQ2 := Lib.hid hq2; have HC2 := Lib.hid hC; clear hC hq2; have v2 := HC2.out.var))
  have hfin : Cm.rd b = s2 := by rw [Hfin.out]; show Cm.rdL b (Cm.rdL b (s0) 97) 109 = _; rw [HQ1.out, HQ2.out]
  have Hfi := Lib.hid hfin
  have Hok := Lib.hid HC2.out.ok
  have HC := HC2
  have hv := HC.out.var
  clear hfin v0 v1 v2 k0
  obtain ⟨WL, hWL⟩ : ∃ WL, (W2.setCell ⟨C, 4, none⟩ (.int .i64 (Form.unfold_ n2))) = WL := ⟨_, rfl⟩
  rw [hWL] at HC hv
  rw [hWL]
  clear hWL
  obtain ⟨cf, hcf⟩ : ∃ cf, s2.1.cells = cf := ⟨_, rfl⟩
  have HCc := Lib.hid (show ∀ W, RC w W (.slice p b.length c) b R V C s2 → CcAt W C cf from fun W h => by rw [← hcf]; exact h.c)
  have hcs : cf.size = 35 := by rw [← hcf]; rfl
  have HCo := Lib.hid (show cf.all (·.oneCell') = true by rw [← hcf]; exact Cm.cells_one _)
  have HZo := Lib.hid (show zc.all (·.oneCell') = true by rw [← Hzc.out]; exact zC_one)
  have HMy := Lib.hid (fun W => (show Calls Try.prog 19 #[.agg cf] W fun e w' => e = .returned (.bool s2.1.mayB) ∧ Below W.heap.size W w' from by rw [← hcf]; exact may19_w s2.1 Hok.out W))
  have Hcf := Lib.hid hcf
  have HCz := Lib.hid (show ∀ W, RC w W (.slice p b.length c) b R V C s2 → W.heap[w.heap.size]? = some (.cells zc 30) from fun W h => by rw [← Hzc.out]; exact h.rz)
  clear hcf
  obtain ⟨d, hd⟩ : ∃ d, Form.done b.length s2.2.1 s2.2.2 = d := ⟨_, rfl⟩
  have HD := Lib.hid hd
  have HDn := Lib.hid (show Calls Try.prog 50 #[.pointer (some ⟨R, 0, none⟩)] WL fun r w' => r = .returned (.int .i64 d) ∧ RegT.Same WL w' from by rw [← hd]; exact done_w R _ b s2.2.1 s2.2.2 WL HC.out.rd HC.out.bs HC.out.ha)
  clear hd
  by_cases h0 : d = 0
  · subst h0
    cases hm : s2.1.mayB with
    | true =>
      have HMt := Lib.hid hm
      rw [hm] at HMy
      clear hm
      go_wp2_with (first
        | (go_at_call 50; (with_reducible refine (HDn.out).mono ?_); rintro r w8 ⟨rfl, hS⟩; have HC8 := Lib.hid (HC.out.same hS); clear hS)
        | (refine wpList_load_cc rfl (.tmp 5) rfl rfl (HCc.out _ HC8.out) hcs ?_)
        | (go_at_call 19; (with_reducible refine (HMy.out _).mono ?_); rintro r w9 ⟨rfl, hB⟩; have HC9 := Lib.hid (HC8.out.keep hB); clear hB)
        | (refine wpList_load_cc rfl (.tmp 5) rfl rfl (HCc.out _ HC9.out) hcs ?_)
        | (refine wpList_store_rowTo rfl 30 (.tmp 2) (.tmp 119) rfl rfl _ cf rfl rfl 30 zc (HCz.out _ HC9.out) (show _ = some cf.size by rw [hcs]; kernel_rfl) (by rw [hcs, hzs]) HCo.out ?_))
      obtain ⟨hend, hres⟩ := HC9.out.result cf
      refine bodyPost_ret (v := .tuple #[.agg cf, .int .i64 0]) (results_cell_tmp rfl _ _ w.heap.size 30 _ _ _ _ rfl rfl hres rfl Try.underlying30 (show _ = some cf.size by rw [hcs]; kernel_rfl)) rfl ?_
      have ha := rdAns_yes Hfi.out HD.out HMt.out hend
      rw [Hcf.out] at ha
      exact ha
    | false =>
      have HMt := Lib.hid hm
      rw [hm] at HMy
      clear hm
      go_wp2_with (first
        | (go_at_call 50; (with_reducible refine (HDn.out).mono ?_); rintro r w8 ⟨rfl, hS⟩; have HC8 := Lib.hid (HC.out.same hS); clear hS)
        | (refine wpList_load_cc rfl (.tmp 5) rfl rfl (HCc.out _ HC8.out) hcs ?_)
        | (go_at_call 19; (with_reducible refine (HMy.out _).mono ?_); rintro r w9 ⟨rfl, hB⟩; have HC9 := Lib.hid (HC8.out.keep hB); clear hB)
        | (refine wpList_plain_value (v := .agg zc) rfl (by rw [← Hzc.out]; exact exec_build30e rfl) ?_)
        | (refine wpList_store_rowTo rfl 30 (.tmp 2) (.tmp 118) rfl rfl _ zc rfl rfl 30 zc (HCz.out _ HC9.out) (show _ = some zc.size by rw [hzs]; kernel_rfl) rfl HZo.out ?_))
      obtain ⟨hend, hres⟩ := HC9.out.result zc
      refine bodyPost_ret (v := .tuple #[.agg zc, .int .i64 5]) (results_cell_tmp rfl _ _ w.heap.size 30 _ _ _ _ rfl rfl hres rfl Try.underlying30 (show _ = some zc.size by rw [hzs]; kernel_rfl)) rfl ?_
      have ha := rdAns_no Hfi.out (.inr HMt.out) hend
      rw [Hzc.out] at ha
      exact ha
  · have hdn : (d != 0) = true := by simpa using h0
    have HD0 := Lib.hid (show Form.done b.length s2.2.1 s2.2.2 ≠ 0 from by rw [HD.out]; exact h0)
    clear h0
    go_wp2_with (first
      | (go_at_call 50; (with_reducible refine (HDn.out).mono ?_); rintro r w8 ⟨rfl, hS⟩; have HC8 := Lib.hid (HC.out.same hS); clear hS)
      | (refine wpList_plain_value (v := .agg zc) rfl (by rw [← Hzc.out]; exact exec_build30e rfl) ?_)
      | (refine wpList_store_rowTo rfl 30 (.tmp 2) (.tmp 118) rfl rfl _ zc rfl rfl 30 zc (HCz.out _ HC8.out) (show _ = some zc.size by rw [hzs]; kernel_rfl) rfl HZo.out ?_))
    obtain ⟨hend, hres⟩ := HC8.out.result zc
    refine bodyPost_ret (v := .tuple #[.agg zc, .int .i64 5]) (results_cell_tmp rfl _ _ w.heap.size 30 _ _ _ _ rfl rfl hres rfl Try.underlying30 (show _ = some zc.size by rw [hzs]; kernel_rfl)) rfl ?_
    have ha := rdAns_no Hfi.out (.inl HD0.out) hend
    rw [Hzc.out] at ha
    exact ha

set_option maxRecDepth 100000 in
set_option maxHeartbeats 12800000 in
theorem read21_2_w (v : Value) (b : List UInt8) (w : World) (hb : RdB w v b) (hl : b.length ≤ 1000000) (hkd : (Form.small b 0 0 14).1 = 2) : Calls Try.prog 21 #[v] w (RdAns w b) := by
  obtain ⟨p, c, rfl, hpt⟩ := hb
  have HBv := Lib.hid (show RdB w (.slice p b.length c) b from ⟨p, c, rfl, hpt⟩)
  have HBn := Lib.hid (((HBv.out.keeps ((Keeps.refl w).alloc (.cells zC 30))).keeps ((Keeps.refl _).alloc (.cells #[.slice p b.length c, .int .i64 0, .int .i64 0] 98))).keeps ((Keeps.refl _).alloc (.cells #[.pointer (some ⟨w.heap.size + 1, 0, none⟩)] 70)))
  have Hkd := Lib.hid hkd
  have Hl := Lib.hid hl
  clear hpt hkd
  obtain ⟨zc, hzc⟩ : ∃ zc, zC = zc := ⟨_, rfl⟩
  have hz := hz30
  rw [hzc] at hz
  rw [hzc] at HBn
  have Hzc := Lib.hid hzc
  have hzs : zc.size = 35 := by rw [← hzc]; rfl
  clear hzc
  have HRd := Lib.hid (show Rdr (((w.alloc (.cells zc 30)).alloc (.cells #[.slice p b.length c, .int .i64 0, .int .i64 0] 98)).alloc (.cells #[.pointer (some ⟨w.heap.size + 1, 0, none⟩)] 70)) (w.heap.size + 1) (.slice p b.length c) 0 0 from by
    unfold Rdr
    rw [Below.heap_alloc _ _ _ (by simp)]
    have := heap_alloc_new (w.alloc (.cells zc 30)) (.cells #[.slice p b.length c, .int .i64 0, .int .i64 0] 98)
    rw [heap_alloc_size] at this
    exact this)
  obtain ⟨kc, hkc⟩ : ∃ kc, kC 2 = kc := ⟨_, rfl⟩
  have hks : kc.size = 35 := by rw [← hkc]; rfl
  have HK1 := Lib.hid (show kc.all (·.oneCell') = true by rw [← hkc]; exact cmc_one ..)
  have Hkc := Lib.hid hkc
  clear hkc
  go_enter Try.func21, Try.ntmps21
  go_upto_region 3 with (first
    | (refine wpList_alloc_zero rfl 30 rfl _ hz ?_)
    | (go_at_call 41; (with_reducible refine (new_w p b.length c _).mono ?_); rintro r w1 ⟨rfl, rfl⟩)
    | (go_at_call 42; (with_reducible refine (small_z (w.heap.size + 1) (.slice p b.length c) b 0 0 14 14 rfl _ HRd.out HBn.out (Nat.zero_le _) hl (by decide)).mono ?_); rintro r w2 ⟨n, a0, e0, hs, rfl, hm⟩; have HS := Lib.hid hs; have HM := Lib.hid hm; obtain rfl : n = 2 := (by have h := Hkd.out; rw [hs] at h; exact h); clear hs hm)
    | (refine wpList_plain_value (v := .agg kc) rfl (by rw [← Hkc.out]; exact exec_build30 2 (.tmp 13) rfl rfl) ?_)
    | (refine wpList_store_rowTo rfl 30 (.tmp 5) (.tmp 14) rfl rfl _ kc rfl rfl 30 zc (heap_alloc_new w2 _) (show _ = some kc.size by rw [hks]; kernel_rfl) (by rw [hks, hzs]) HK1.out ?_))
  rw [alloc_setRow]
  have HC0 := Lib.hid (show RC w (w2.alloc (.cells kc 30)) (.slice p b.length c) b (w.heap.size + 1) (w.heap.size + 1 + 1) w2.heap.size (Cm.rd0 b) from by rw [← Hkc.out]; exact RC.begin HBv.out Hl.out (by rw [Hzc.out]; exact HM.out) HS.out)
  obtain ⟨W0, hW0⟩ : ∃ W0, w2.alloc (.cells kc 30) = W0 := ⟨_, rfl⟩
  rw [hW0] at HC0
  rw [hW0]
  obtain ⟨C, hC⟩ : ∃ C, w2.heap.size = C := ⟨_, rfl⟩
  rw [hC] at HC0
  rw [hC]
  obtain ⟨V, hV⟩ : ∃ V, w.heap.size + 1 + 1 = V := ⟨_, rfl⟩
  rw [hV] at HC0
  rw [hV]
  obtain ⟨R, hR⟩ : ∃ R, w.heap.size + 1 = R := ⟨_, rfl⟩
  rw [hR] at HC0
  clear hW0 hC hV hR HRd HBn HBv HM
  have Hfin := Lib.hid (show Cm.rd b = (flds 2).foldl (Cm.rdL b) (Cm.rd0 b) from by unfold Cm.rd; rw [HS.out])
  have Hk0 := Lib.hid (show (Cm.rd0 b).1.cells[0]? = some (.int .u8 2) from by unfold Cm.rd0; rw [HS.out]; rfl)
  obtain ⟨s0, hs0⟩ : ∃ s, Cm.rd0 b = s := ⟨_, rfl⟩
  rw [hs0] at HC0 Hfin Hk0
  clear hs0 HS
  have k0 := (HC0.out.at 0).trans Hk0.out
  have v0 := HC0.out.var
  go_upto_region 47 with (first
    | (go_at_call 58; (with_reducible refine (acct58_w HC0.out).mono ?_); rintro r W1 ⟨rfl, hC⟩; obtain ⟨s1, hq1⟩ : ∃ s, Cm.rdL b s0 97 = s := ⟨_, rfl⟩; rw [hq1] at hC; have HQ1 := Lib.hid hq1; have HC1 := Lib.hid hC; clear hC hq1; have v1 := HC1.out.var)
    | (go_at_call 44; (with_reducible refine (rint_w R _ b s1.2.1 s1.2.2 _ HC1.out.rd HC1.out.bs HC1.out.ha HC1.out.hl).mono ?_); rintro r W2 ⟨n2, a2, e2, hs, rfl, hm⟩; have HM2 := Lib.hid (HC1.out.nums hs hm); have y2 := (HM2.out.at 4).trans (show _ = some (Value.int .i64 s1.1.amount) from rfl); have z2 := HM2.out.thaw 4; have hC := HC1.out.l109 hs hm; clear hs hm; obtain ⟨s2, hq2⟩ : ∃ s, Cm.rdL b s1 109 = s := ⟨_, rfl⟩; rw [hq2] at hC; have HQ2 := Lib.hid hq2; have HC2 := Lib.hid hC; clear hC hq2; have v2 := HC2.out.var))
  have hfin : Cm.rd b = s2 := by rw [Hfin.out]; show Cm.rdL b (Cm.rdL b (s0) 97) 109 = _; rw [HQ1.out, HQ2.out]
  have Hfi := Lib.hid hfin
  have Hok := Lib.hid HC2.out.ok
  have HC := HC2
  have hv := HC.out.var
  clear hfin v0 v1 v2 k0
  obtain ⟨WL, hWL⟩ : ∃ WL, (W2.setCell ⟨C, 4, none⟩ (.int .i64 (Form.unfold_ n2))) = WL := ⟨_, rfl⟩
  rw [hWL] at HC hv
  rw [hWL]
  clear hWL
  obtain ⟨cf, hcf⟩ : ∃ cf, s2.1.cells = cf := ⟨_, rfl⟩
  have HCc := Lib.hid (show ∀ W, RC w W (.slice p b.length c) b R V C s2 → CcAt W C cf from fun W h => by rw [← hcf]; exact h.c)
  have hcs : cf.size = 35 := by rw [← hcf]; rfl
  have HCo := Lib.hid (show cf.all (·.oneCell') = true by rw [← hcf]; exact Cm.cells_one _)
  have HZo := Lib.hid (show zc.all (·.oneCell') = true by rw [← Hzc.out]; exact zC_one)
  have HMy := Lib.hid (fun W => (show Calls Try.prog 19 #[.agg cf] W fun e w' => e = .returned (.bool s2.1.mayB) ∧ Below W.heap.size W w' from by rw [← hcf]; exact may19_w s2.1 Hok.out W))
  have Hcf := Lib.hid hcf
  have HCz := Lib.hid (show ∀ W, RC w W (.slice p b.length c) b R V C s2 → W.heap[w.heap.size]? = some (.cells zc 30) from fun W h => by rw [← Hzc.out]; exact h.rz)
  clear hcf
  obtain ⟨d, hd⟩ : ∃ d, Form.done b.length s2.2.1 s2.2.2 = d := ⟨_, rfl⟩
  have HD := Lib.hid hd
  have HDn := Lib.hid (show Calls Try.prog 50 #[.pointer (some ⟨R, 0, none⟩)] WL fun r w' => r = .returned (.int .i64 d) ∧ RegT.Same WL w' from by rw [← hd]; exact done_w R _ b s2.2.1 s2.2.2 WL HC.out.rd HC.out.bs HC.out.ha)
  clear hd
  by_cases h0 : d = 0
  · subst h0
    cases hm : s2.1.mayB with
    | true =>
      have HMt := Lib.hid hm
      rw [hm] at HMy
      clear hm
      go_wp2_with (first
        | (go_at_call 50; (with_reducible refine (HDn.out).mono ?_); rintro r w8 ⟨rfl, hS⟩; have HC8 := Lib.hid (HC.out.same hS); clear hS)
        | (refine wpList_load_cc rfl (.tmp 5) rfl rfl (HCc.out _ HC8.out) hcs ?_)
        | (go_at_call 19; (with_reducible refine (HMy.out _).mono ?_); rintro r w9 ⟨rfl, hB⟩; have HC9 := Lib.hid (HC8.out.keep hB); clear hB)
        | (refine wpList_load_cc rfl (.tmp 5) rfl rfl (HCc.out _ HC9.out) hcs ?_)
        | (refine wpList_store_rowTo rfl 30 (.tmp 2) (.tmp 119) rfl rfl _ cf rfl rfl 30 zc (HCz.out _ HC9.out) (show _ = some cf.size by rw [hcs]; kernel_rfl) (by rw [hcs, hzs]) HCo.out ?_))
      obtain ⟨hend, hres⟩ := HC9.out.result cf
      refine bodyPost_ret (v := .tuple #[.agg cf, .int .i64 0]) (results_cell_tmp rfl _ _ w.heap.size 30 _ _ _ _ rfl rfl hres rfl Try.underlying30 (show _ = some cf.size by rw [hcs]; kernel_rfl)) rfl ?_
      have ha := rdAns_yes Hfi.out HD.out HMt.out hend
      rw [Hcf.out] at ha
      exact ha
    | false =>
      have HMt := Lib.hid hm
      rw [hm] at HMy
      clear hm
      go_wp2_with (first
        | (go_at_call 50; (with_reducible refine (HDn.out).mono ?_); rintro r w8 ⟨rfl, hS⟩; have HC8 := Lib.hid (HC.out.same hS); clear hS)
        | (refine wpList_load_cc rfl (.tmp 5) rfl rfl (HCc.out _ HC8.out) hcs ?_)
        | (go_at_call 19; (with_reducible refine (HMy.out _).mono ?_); rintro r w9 ⟨rfl, hB⟩; have HC9 := Lib.hid (HC8.out.keep hB); clear hB)
        | (refine wpList_plain_value (v := .agg zc) rfl (by rw [← Hzc.out]; exact exec_build30e rfl) ?_)
        | (refine wpList_store_rowTo rfl 30 (.tmp 2) (.tmp 118) rfl rfl _ zc rfl rfl 30 zc (HCz.out _ HC9.out) (show _ = some zc.size by rw [hzs]; kernel_rfl) rfl HZo.out ?_))
      obtain ⟨hend, hres⟩ := HC9.out.result zc
      refine bodyPost_ret (v := .tuple #[.agg zc, .int .i64 5]) (results_cell_tmp rfl _ _ w.heap.size 30 _ _ _ _ rfl rfl hres rfl Try.underlying30 (show _ = some zc.size by rw [hzs]; kernel_rfl)) rfl ?_
      have ha := rdAns_no Hfi.out (.inr HMt.out) hend
      rw [Hzc.out] at ha
      exact ha
  · have hdn : (d != 0) = true := by simpa using h0
    have HD0 := Lib.hid (show Form.done b.length s2.2.1 s2.2.2 ≠ 0 from by rw [HD.out]; exact h0)
    clear h0
    go_wp2_with (first
      | (go_at_call 50; (with_reducible refine (HDn.out).mono ?_); rintro r w8 ⟨rfl, hS⟩; have HC8 := Lib.hid (HC.out.same hS); clear hS)
      | (refine wpList_plain_value (v := .agg zc) rfl (by rw [← Hzc.out]; exact exec_build30e rfl) ?_)
      | (refine wpList_store_rowTo rfl 30 (.tmp 2) (.tmp 118) rfl rfl _ zc rfl rfl 30 zc (HCz.out _ HC8.out) (show _ = some zc.size by rw [hzs]; kernel_rfl) rfl HZo.out ?_))
    obtain ⟨hend, hres⟩ := HC8.out.result zc
    refine bodyPost_ret (v := .tuple #[.agg zc, .int .i64 5]) (results_cell_tmp rfl _ _ w.heap.size 30 _ _ _ _ rfl rfl hres rfl Try.underlying30 (show _ = some zc.size by rw [hzs]; kernel_rfl)) rfl ?_
    have ha := rdAns_no Hfi.out (.inl HD0.out) hend
    rw [Hzc.out] at ha
    exact ha

set_option maxRecDepth 100000 in
set_option maxHeartbeats 12800000 in
theorem read21_3_w (v : Value) (b : List UInt8) (w : World) (hb : RdB w v b) (hl : b.length ≤ 1000000) (hkd : (Form.small b 0 0 14).1 = 3) : Calls Try.prog 21 #[v] w (RdAns w b) := by
  obtain ⟨p, c, rfl, hpt⟩ := hb
  have HBv := Lib.hid (show RdB w (.slice p b.length c) b from ⟨p, c, rfl, hpt⟩)
  have HBn := Lib.hid (((HBv.out.keeps ((Keeps.refl w).alloc (.cells zC 30))).keeps ((Keeps.refl _).alloc (.cells #[.slice p b.length c, .int .i64 0, .int .i64 0] 98))).keeps ((Keeps.refl _).alloc (.cells #[.pointer (some ⟨w.heap.size + 1, 0, none⟩)] 70)))
  have Hkd := Lib.hid hkd
  have Hl := Lib.hid hl
  clear hpt hkd
  obtain ⟨zc, hzc⟩ : ∃ zc, zC = zc := ⟨_, rfl⟩
  have hz := hz30
  rw [hzc] at hz
  rw [hzc] at HBn
  have Hzc := Lib.hid hzc
  have hzs : zc.size = 35 := by rw [← hzc]; rfl
  clear hzc
  have HRd := Lib.hid (show Rdr (((w.alloc (.cells zc 30)).alloc (.cells #[.slice p b.length c, .int .i64 0, .int .i64 0] 98)).alloc (.cells #[.pointer (some ⟨w.heap.size + 1, 0, none⟩)] 70)) (w.heap.size + 1) (.slice p b.length c) 0 0 from by
    unfold Rdr
    rw [Below.heap_alloc _ _ _ (by simp)]
    have := heap_alloc_new (w.alloc (.cells zc 30)) (.cells #[.slice p b.length c, .int .i64 0, .int .i64 0] 98)
    rw [heap_alloc_size] at this
    exact this)
  obtain ⟨kc, hkc⟩ : ∃ kc, kC 3 = kc := ⟨_, rfl⟩
  have hks : kc.size = 35 := by rw [← hkc]; rfl
  have HK1 := Lib.hid (show kc.all (·.oneCell') = true by rw [← hkc]; exact cmc_one ..)
  have Hkc := Lib.hid hkc
  clear hkc
  go_enter Try.func21, Try.ntmps21
  go_upto_region 3 with (first
    | (refine wpList_alloc_zero rfl 30 rfl _ hz ?_)
    | (go_at_call 41; (with_reducible refine (new_w p b.length c _).mono ?_); rintro r w1 ⟨rfl, rfl⟩)
    | (go_at_call 42; (with_reducible refine (small_z (w.heap.size + 1) (.slice p b.length c) b 0 0 14 14 rfl _ HRd.out HBn.out (Nat.zero_le _) hl (by decide)).mono ?_); rintro r w2 ⟨n, a0, e0, hs, rfl, hm⟩; have HS := Lib.hid hs; have HM := Lib.hid hm; obtain rfl : n = 3 := (by have h := Hkd.out; rw [hs] at h; exact h); clear hs hm)
    | (refine wpList_plain_value (v := .agg kc) rfl (by rw [← Hkc.out]; exact exec_build30 3 (.tmp 13) rfl rfl) ?_)
    | (refine wpList_store_rowTo rfl 30 (.tmp 5) (.tmp 14) rfl rfl _ kc rfl rfl 30 zc (heap_alloc_new w2 _) (show _ = some kc.size by rw [hks]; kernel_rfl) (by rw [hks, hzs]) HK1.out ?_))
  rw [alloc_setRow]
  have HC0 := Lib.hid (show RC w (w2.alloc (.cells kc 30)) (.slice p b.length c) b (w.heap.size + 1) (w.heap.size + 1 + 1) w2.heap.size (Cm.rd0 b) from by rw [← Hkc.out]; exact RC.begin HBv.out Hl.out (by rw [Hzc.out]; exact HM.out) HS.out)
  obtain ⟨W0, hW0⟩ : ∃ W0, w2.alloc (.cells kc 30) = W0 := ⟨_, rfl⟩
  rw [hW0] at HC0
  rw [hW0]
  obtain ⟨C, hC⟩ : ∃ C, w2.heap.size = C := ⟨_, rfl⟩
  rw [hC] at HC0
  rw [hC]
  obtain ⟨V, hV⟩ : ∃ V, w.heap.size + 1 + 1 = V := ⟨_, rfl⟩
  rw [hV] at HC0
  rw [hV]
  obtain ⟨R, hR⟩ : ∃ R, w.heap.size + 1 = R := ⟨_, rfl⟩
  rw [hR] at HC0
  clear hW0 hC hV hR HRd HBn HBv HM
  have Hfin := Lib.hid (show Cm.rd b = (flds 3).foldl (Cm.rdL b) (Cm.rd0 b) from by unfold Cm.rd; rw [HS.out])
  have Hk0 := Lib.hid (show (Cm.rd0 b).1.cells[0]? = some (.int .u8 3) from by unfold Cm.rd0; rw [HS.out]; rfl)
  obtain ⟨s0, hs0⟩ : ∃ s, Cm.rd0 b = s := ⟨_, rfl⟩
  rw [hs0] at HC0 Hfin Hk0
  clear hs0 HS
  have k0 := (HC0.out.at 0).trans Hk0.out
  have v0 := HC0.out.var
  go_upto_region 47 with (first
    | (go_at_call 61; (with_reducible refine (take_w R _ b s0.2.1 s0.2.2 _ HC0.out.rd HC0.out.bs HC0.out.ha HC0.out.hl HC0.out.offR).mono ?_); rintro r W1 ⟨e2, hr, he2, hm⟩; rw [Sp.got_cells] at hr; have hm2 : Moved W0 W1 R (.slice p b.length c) (Form.rst b s0.2.1 s0.2.2 25).1 (Sp.gotE b s0.2.1 s0.2.2) := (by subst he2; exact hm); have HM1 := Lib.hid (HC0.out.moved hm2 (Form.rst_le b s0.2.1 s0.2.2 HC0.out.ha 25)); have hC := HC0.out.l115 hm2; obtain ⟨sc, hsc⟩ : ∃ sc, (Sp.got b s0.2.1 s0.2.2).cells = sc := ⟨_, rfl⟩; have Hsc := Lib.hid (And.intro hsc (show (Try.prog.info? 27).map (·.size) = some sc.size ∧ sc.size = 25 ∧ sc.all (·.oneCell') = true from by rw [← hsc]; exact ⟨by kernel_rfl, rfl, Go.Proofs.Ytoflehlkacofjaa.cells_one _⟩)); rw [hsc] at hr hC; subst hr; clear hsc he2 hm hm2; have HTh := Lib.hid (show W1.there C 5 sc.size from by rw [Hsc.out.2.2.1]; exact HM1.out.there 5 25 (by decide)); obtain ⟨s1, hq1⟩ : ∃ s, Cm.rdL b s0 115 = s := ⟨_, rfl⟩; rw [hq1] at hC; have HQ1 := Lib.hid hq1; have HC1 := Lib.hid hC; clear hC hq1; have v1 := HC1.out.var)
    | (refine wpList_store_mid rfl 27 (.tmp 32) (.tmp 31) rfl _ _ sc rfl rfl HTh.out Hsc.out.2.1 Hsc.out.2.2.2 ?_))
  have hfin : Cm.rd b = s1 := by rw [Hfin.out]; show Cm.rdL b (s0) 115 = _; rw [HQ1.out]
  have Hfi := Lib.hid hfin
  have Hok := Lib.hid HC1.out.ok
  have HC := HC1
  have hv := HC.out.var
  clear hfin v0 v1 k0
  obtain ⟨WL, hWL⟩ : ∃ WL, (W1.setCells C 5 sc.toList) = WL := ⟨_, rfl⟩
  rw [hWL] at HC hv
  rw [hWL]
  clear hWL
  obtain ⟨cf, hcf⟩ : ∃ cf, s1.1.cells = cf := ⟨_, rfl⟩
  have HCc := Lib.hid (show ∀ W, RC w W (.slice p b.length c) b R V C s1 → CcAt W C cf from fun W h => by rw [← hcf]; exact h.c)
  have hcs : cf.size = 35 := by rw [← hcf]; rfl
  have HCo := Lib.hid (show cf.all (·.oneCell') = true by rw [← hcf]; exact Cm.cells_one _)
  have HZo := Lib.hid (show zc.all (·.oneCell') = true by rw [← Hzc.out]; exact zC_one)
  have HMy := Lib.hid (fun W => (show Calls Try.prog 19 #[.agg cf] W fun e w' => e = .returned (.bool s1.1.mayB) ∧ Below W.heap.size W w' from by rw [← hcf]; exact may19_w s1.1 Hok.out W))
  have Hcf := Lib.hid hcf
  have HCz := Lib.hid (show ∀ W, RC w W (.slice p b.length c) b R V C s1 → W.heap[w.heap.size]? = some (.cells zc 30) from fun W h => by rw [← Hzc.out]; exact h.rz)
  clear hcf
  obtain ⟨d, hd⟩ : ∃ d, Form.done b.length s1.2.1 s1.2.2 = d := ⟨_, rfl⟩
  have HD := Lib.hid hd
  have HDn := Lib.hid (show Calls Try.prog 50 #[.pointer (some ⟨R, 0, none⟩)] WL fun r w' => r = .returned (.int .i64 d) ∧ RegT.Same WL w' from by rw [← hd]; exact done_w R _ b s1.2.1 s1.2.2 WL HC.out.rd HC.out.bs HC.out.ha)
  clear hd
  by_cases h0 : d = 0
  · subst h0
    cases hm : s1.1.mayB with
    | true =>
      have HMt := Lib.hid hm
      rw [hm] at HMy
      clear hm
      go_wp2_with (first
        | (go_at_call 50; (with_reducible refine (HDn.out).mono ?_); rintro r w8 ⟨rfl, hS⟩; have HC8 := Lib.hid (HC.out.same hS); clear hS)
        | (refine wpList_load_cc rfl (.tmp 5) rfl rfl (HCc.out _ HC8.out) hcs ?_)
        | (go_at_call 19; (with_reducible refine (HMy.out _).mono ?_); rintro r w9 ⟨rfl, hB⟩; have HC9 := Lib.hid (HC8.out.keep hB); clear hB)
        | (refine wpList_load_cc rfl (.tmp 5) rfl rfl (HCc.out _ HC9.out) hcs ?_)
        | (refine wpList_store_rowTo rfl 30 (.tmp 2) (.tmp 119) rfl rfl _ cf rfl rfl 30 zc (HCz.out _ HC9.out) (show _ = some cf.size by rw [hcs]; kernel_rfl) (by rw [hcs, hzs]) HCo.out ?_))
      obtain ⟨hend, hres⟩ := HC9.out.result cf
      refine bodyPost_ret (v := .tuple #[.agg cf, .int .i64 0]) (results_cell_tmp rfl _ _ w.heap.size 30 _ _ _ _ rfl rfl hres rfl Try.underlying30 (show _ = some cf.size by rw [hcs]; kernel_rfl)) rfl ?_
      have ha := rdAns_yes Hfi.out HD.out HMt.out hend
      rw [Hcf.out] at ha
      exact ha
    | false =>
      have HMt := Lib.hid hm
      rw [hm] at HMy
      clear hm
      go_wp2_with (first
        | (go_at_call 50; (with_reducible refine (HDn.out).mono ?_); rintro r w8 ⟨rfl, hS⟩; have HC8 := Lib.hid (HC.out.same hS); clear hS)
        | (refine wpList_load_cc rfl (.tmp 5) rfl rfl (HCc.out _ HC8.out) hcs ?_)
        | (go_at_call 19; (with_reducible refine (HMy.out _).mono ?_); rintro r w9 ⟨rfl, hB⟩; have HC9 := Lib.hid (HC8.out.keep hB); clear hB)
        | (refine wpList_plain_value (v := .agg zc) rfl (by rw [← Hzc.out]; exact exec_build30e rfl) ?_)
        | (refine wpList_store_rowTo rfl 30 (.tmp 2) (.tmp 118) rfl rfl _ zc rfl rfl 30 zc (HCz.out _ HC9.out) (show _ = some zc.size by rw [hzs]; kernel_rfl) rfl HZo.out ?_))
      obtain ⟨hend, hres⟩ := HC9.out.result zc
      refine bodyPost_ret (v := .tuple #[.agg zc, .int .i64 5]) (results_cell_tmp rfl _ _ w.heap.size 30 _ _ _ _ rfl rfl hres rfl Try.underlying30 (show _ = some zc.size by rw [hzs]; kernel_rfl)) rfl ?_
      have ha := rdAns_no Hfi.out (.inr HMt.out) hend
      rw [Hzc.out] at ha
      exact ha
  · have hdn : (d != 0) = true := by simpa using h0
    have HD0 := Lib.hid (show Form.done b.length s1.2.1 s1.2.2 ≠ 0 from by rw [HD.out]; exact h0)
    clear h0
    go_wp2_with (first
      | (go_at_call 50; (with_reducible refine (HDn.out).mono ?_); rintro r w8 ⟨rfl, hS⟩; have HC8 := Lib.hid (HC.out.same hS); clear hS)
      | (refine wpList_plain_value (v := .agg zc) rfl (by rw [← Hzc.out]; exact exec_build30e rfl) ?_)
      | (refine wpList_store_rowTo rfl 30 (.tmp 2) (.tmp 118) rfl rfl _ zc rfl rfl 30 zc (HCz.out _ HC8.out) (show _ = some zc.size by rw [hzs]; kernel_rfl) rfl HZo.out ?_))
    obtain ⟨hend, hres⟩ := HC8.out.result zc
    refine bodyPost_ret (v := .tuple #[.agg zc, .int .i64 5]) (results_cell_tmp rfl _ _ w.heap.size 30 _ _ _ _ rfl rfl hres rfl Try.underlying30 (show _ = some zc.size by rw [hzs]; kernel_rfl)) rfl ?_
    have ha := rdAns_no Hfi.out (.inl HD0.out) hend
    rw [Hzc.out] at ha
    exact ha

set_option maxRecDepth 100000 in
set_option maxHeartbeats 12800000 in
theorem read21_4_w (v : Value) (b : List UInt8) (w : World) (hb : RdB w v b) (hl : b.length ≤ 1000000) (hkd : (Form.small b 0 0 14).1 = 4) : Calls Try.prog 21 #[v] w (RdAns w b) := by
  obtain ⟨p, c, rfl, hpt⟩ := hb
  have HBv := Lib.hid (show RdB w (.slice p b.length c) b from ⟨p, c, rfl, hpt⟩)
  have HBn := Lib.hid (((HBv.out.keeps ((Keeps.refl w).alloc (.cells zC 30))).keeps ((Keeps.refl _).alloc (.cells #[.slice p b.length c, .int .i64 0, .int .i64 0] 98))).keeps ((Keeps.refl _).alloc (.cells #[.pointer (some ⟨w.heap.size + 1, 0, none⟩)] 70)))
  have Hkd := Lib.hid hkd
  have Hl := Lib.hid hl
  clear hpt hkd
  obtain ⟨zc, hzc⟩ : ∃ zc, zC = zc := ⟨_, rfl⟩
  have hz := hz30
  rw [hzc] at hz
  rw [hzc] at HBn
  have Hzc := Lib.hid hzc
  have hzs : zc.size = 35 := by rw [← hzc]; rfl
  clear hzc
  have HRd := Lib.hid (show Rdr (((w.alloc (.cells zc 30)).alloc (.cells #[.slice p b.length c, .int .i64 0, .int .i64 0] 98)).alloc (.cells #[.pointer (some ⟨w.heap.size + 1, 0, none⟩)] 70)) (w.heap.size + 1) (.slice p b.length c) 0 0 from by
    unfold Rdr
    rw [Below.heap_alloc _ _ _ (by simp)]
    have := heap_alloc_new (w.alloc (.cells zc 30)) (.cells #[.slice p b.length c, .int .i64 0, .int .i64 0] 98)
    rw [heap_alloc_size] at this
    exact this)
  obtain ⟨kc, hkc⟩ : ∃ kc, kC 4 = kc := ⟨_, rfl⟩
  have hks : kc.size = 35 := by rw [← hkc]; rfl
  have HK1 := Lib.hid (show kc.all (·.oneCell') = true by rw [← hkc]; exact cmc_one ..)
  have Hkc := Lib.hid hkc
  clear hkc
  go_enter Try.func21, Try.ntmps21
  go_upto_region 3 with (first
    | (refine wpList_alloc_zero rfl 30 rfl _ hz ?_)
    | (go_at_call 41; (with_reducible refine (new_w p b.length c _).mono ?_); rintro r w1 ⟨rfl, rfl⟩)
    | (go_at_call 42; (with_reducible refine (small_z (w.heap.size + 1) (.slice p b.length c) b 0 0 14 14 rfl _ HRd.out HBn.out (Nat.zero_le _) hl (by decide)).mono ?_); rintro r w2 ⟨n, a0, e0, hs, rfl, hm⟩; have HS := Lib.hid hs; have HM := Lib.hid hm; obtain rfl : n = 4 := (by have h := Hkd.out; rw [hs] at h; exact h); clear hs hm)
    | (refine wpList_plain_value (v := .agg kc) rfl (by rw [← Hkc.out]; exact exec_build30 4 (.tmp 13) rfl rfl) ?_)
    | (refine wpList_store_rowTo rfl 30 (.tmp 5) (.tmp 14) rfl rfl _ kc rfl rfl 30 zc (heap_alloc_new w2 _) (show _ = some kc.size by rw [hks]; kernel_rfl) (by rw [hks, hzs]) HK1.out ?_))
  rw [alloc_setRow]
  have HC0 := Lib.hid (show RC w (w2.alloc (.cells kc 30)) (.slice p b.length c) b (w.heap.size + 1) (w.heap.size + 1 + 1) w2.heap.size (Cm.rd0 b) from by rw [← Hkc.out]; exact RC.begin HBv.out Hl.out (by rw [Hzc.out]; exact HM.out) HS.out)
  obtain ⟨W0, hW0⟩ : ∃ W0, w2.alloc (.cells kc 30) = W0 := ⟨_, rfl⟩
  rw [hW0] at HC0
  rw [hW0]
  obtain ⟨C, hC⟩ : ∃ C, w2.heap.size = C := ⟨_, rfl⟩
  rw [hC] at HC0
  rw [hC]
  obtain ⟨V, hV⟩ : ∃ V, w.heap.size + 1 + 1 = V := ⟨_, rfl⟩
  rw [hV] at HC0
  rw [hV]
  obtain ⟨R, hR⟩ : ∃ R, w.heap.size + 1 = R := ⟨_, rfl⟩
  rw [hR] at HC0
  clear hW0 hC hV hR HRd HBn HBv HM
  have Hfin := Lib.hid (show Cm.rd b = (flds 4).foldl (Cm.rdL b) (Cm.rd0 b) from by unfold Cm.rd; rw [HS.out])
  have Hk0 := Lib.hid (show (Cm.rd0 b).1.cells[0]? = some (.int .u8 4) from by unfold Cm.rd0; rw [HS.out]; rfl)
  obtain ⟨s0, hs0⟩ : ∃ s, Cm.rd0 b = s := ⟨_, rfl⟩
  rw [hs0] at HC0 Hfin Hk0
  clear hs0 HS
  have k0 := (HC0.out.at 0).trans Hk0.out
  have v0 := HC0.out.var
  go_upto_region 47 with (first
    | (go_at_call 59; (with_reducible refine (cont59_w HC0.out).mono ?_); rintro r W1 ⟨rfl, hC⟩; obtain ⟨s1, hq1⟩ : ∃ s, Cm.rdL b s0 99 = s := ⟨_, rfl⟩; rw [hq1] at hC; have HQ1 := Lib.hid hq1; have HC1 := Lib.hid hC; clear hC hq1; have v1 := HC1.out.var)
    | (go_at_call 62; (with_reducible refine (rflag_w R _ b s1.2.1 s1.2.2 _ HC1.out.rd HC1.out.bs HC1.out.ha HC1.out.hl HC1.out.offR).mono ?_); rintro r W2 ⟨f2, a2, e2, hs, rfl, hm⟩; have HM2 := Lib.hid (HC1.out.flgs hs hm); have y2 := (HM2.out.at 30).trans (show _ = some (Value.bool s1.1.on) from rfl); have z2 := HM2.out.thaw 30; have hC := HC1.out.l111 hs hm; clear hs hm; obtain ⟨s2, hq2⟩ : ∃ s, Cm.rdL b s1 111 = s := ⟨_, rfl⟩; rw [hq2] at hC; have HQ2 := Lib.hid hq2; have HC2 := Lib.hid hC; clear hC hq2; have v2 := HC2.out.var))
  have hfin : Cm.rd b = s2 := by rw [Hfin.out]; show Cm.rdL b (Cm.rdL b (s0) 99) 111 = _; rw [HQ1.out, HQ2.out]
  have Hfi := Lib.hid hfin
  have Hok := Lib.hid HC2.out.ok
  have HC := HC2
  have hv := HC.out.var
  clear hfin v0 v1 v2 k0
  obtain ⟨WL, hWL⟩ : ∃ WL, (W2.setCell ⟨C, 30, none⟩ (.bool f2)) = WL := ⟨_, rfl⟩
  rw [hWL] at HC hv
  rw [hWL]
  clear hWL
  obtain ⟨cf, hcf⟩ : ∃ cf, s2.1.cells = cf := ⟨_, rfl⟩
  have HCc := Lib.hid (show ∀ W, RC w W (.slice p b.length c) b R V C s2 → CcAt W C cf from fun W h => by rw [← hcf]; exact h.c)
  have hcs : cf.size = 35 := by rw [← hcf]; rfl
  have HCo := Lib.hid (show cf.all (·.oneCell') = true by rw [← hcf]; exact Cm.cells_one _)
  have HZo := Lib.hid (show zc.all (·.oneCell') = true by rw [← Hzc.out]; exact zC_one)
  have HMy := Lib.hid (fun W => (show Calls Try.prog 19 #[.agg cf] W fun e w' => e = .returned (.bool s2.1.mayB) ∧ Below W.heap.size W w' from by rw [← hcf]; exact may19_w s2.1 Hok.out W))
  have Hcf := Lib.hid hcf
  have HCz := Lib.hid (show ∀ W, RC w W (.slice p b.length c) b R V C s2 → W.heap[w.heap.size]? = some (.cells zc 30) from fun W h => by rw [← Hzc.out]; exact h.rz)
  clear hcf
  obtain ⟨d, hd⟩ : ∃ d, Form.done b.length s2.2.1 s2.2.2 = d := ⟨_, rfl⟩
  have HD := Lib.hid hd
  have HDn := Lib.hid (show Calls Try.prog 50 #[.pointer (some ⟨R, 0, none⟩)] WL fun r w' => r = .returned (.int .i64 d) ∧ RegT.Same WL w' from by rw [← hd]; exact done_w R _ b s2.2.1 s2.2.2 WL HC.out.rd HC.out.bs HC.out.ha)
  clear hd
  by_cases h0 : d = 0
  · subst h0
    cases hm : s2.1.mayB with
    | true =>
      have HMt := Lib.hid hm
      rw [hm] at HMy
      clear hm
      go_wp2_with (first
        | (go_at_call 50; (with_reducible refine (HDn.out).mono ?_); rintro r w8 ⟨rfl, hS⟩; have HC8 := Lib.hid (HC.out.same hS); clear hS)
        | (refine wpList_load_cc rfl (.tmp 5) rfl rfl (HCc.out _ HC8.out) hcs ?_)
        | (go_at_call 19; (with_reducible refine (HMy.out _).mono ?_); rintro r w9 ⟨rfl, hB⟩; have HC9 := Lib.hid (HC8.out.keep hB); clear hB)
        | (refine wpList_load_cc rfl (.tmp 5) rfl rfl (HCc.out _ HC9.out) hcs ?_)
        | (refine wpList_store_rowTo rfl 30 (.tmp 2) (.tmp 119) rfl rfl _ cf rfl rfl 30 zc (HCz.out _ HC9.out) (show _ = some cf.size by rw [hcs]; kernel_rfl) (by rw [hcs, hzs]) HCo.out ?_))
      obtain ⟨hend, hres⟩ := HC9.out.result cf
      refine bodyPost_ret (v := .tuple #[.agg cf, .int .i64 0]) (results_cell_tmp rfl _ _ w.heap.size 30 _ _ _ _ rfl rfl hres rfl Try.underlying30 (show _ = some cf.size by rw [hcs]; kernel_rfl)) rfl ?_
      have ha := rdAns_yes Hfi.out HD.out HMt.out hend
      rw [Hcf.out] at ha
      exact ha
    | false =>
      have HMt := Lib.hid hm
      rw [hm] at HMy
      clear hm
      go_wp2_with (first
        | (go_at_call 50; (with_reducible refine (HDn.out).mono ?_); rintro r w8 ⟨rfl, hS⟩; have HC8 := Lib.hid (HC.out.same hS); clear hS)
        | (refine wpList_load_cc rfl (.tmp 5) rfl rfl (HCc.out _ HC8.out) hcs ?_)
        | (go_at_call 19; (with_reducible refine (HMy.out _).mono ?_); rintro r w9 ⟨rfl, hB⟩; have HC9 := Lib.hid (HC8.out.keep hB); clear hB)
        | (refine wpList_plain_value (v := .agg zc) rfl (by rw [← Hzc.out]; exact exec_build30e rfl) ?_)
        | (refine wpList_store_rowTo rfl 30 (.tmp 2) (.tmp 118) rfl rfl _ zc rfl rfl 30 zc (HCz.out _ HC9.out) (show _ = some zc.size by rw [hzs]; kernel_rfl) rfl HZo.out ?_))
      obtain ⟨hend, hres⟩ := HC9.out.result zc
      refine bodyPost_ret (v := .tuple #[.agg zc, .int .i64 5]) (results_cell_tmp rfl _ _ w.heap.size 30 _ _ _ _ rfl rfl hres rfl Try.underlying30 (show _ = some zc.size by rw [hzs]; kernel_rfl)) rfl ?_
      have ha := rdAns_no Hfi.out (.inr HMt.out) hend
      rw [Hzc.out] at ha
      exact ha
  · have hdn : (d != 0) = true := by simpa using h0
    have HD0 := Lib.hid (show Form.done b.length s2.2.1 s2.2.2 ≠ 0 from by rw [HD.out]; exact h0)
    clear h0
    go_wp2_with (first
      | (go_at_call 50; (with_reducible refine (HDn.out).mono ?_); rintro r w8 ⟨rfl, hS⟩; have HC8 := Lib.hid (HC.out.same hS); clear hS)
      | (refine wpList_plain_value (v := .agg zc) rfl (by rw [← Hzc.out]; exact exec_build30e rfl) ?_)
      | (refine wpList_store_rowTo rfl 30 (.tmp 2) (.tmp 118) rfl rfl _ zc rfl rfl 30 zc (HCz.out _ HC8.out) (show _ = some zc.size by rw [hzs]; kernel_rfl) rfl HZo.out ?_))
    obtain ⟨hend, hres⟩ := HC8.out.result zc
    refine bodyPost_ret (v := .tuple #[.agg zc, .int .i64 5]) (results_cell_tmp rfl _ _ w.heap.size 30 _ _ _ _ rfl rfl hres rfl Try.underlying30 (show _ = some zc.size by rw [hzs]; kernel_rfl)) rfl ?_
    have ha := rdAns_no Hfi.out (.inl HD0.out) hend
    rw [Hzc.out] at ha
    exact ha

set_option maxRecDepth 100000 in
set_option maxHeartbeats 12800000 in
theorem read21_5_w (v : Value) (b : List UInt8) (w : World) (hb : RdB w v b) (hl : b.length ≤ 1000000) (hkd : (Form.small b 0 0 14).1 = 5) : Calls Try.prog 21 #[v] w (RdAns w b) := by
  obtain ⟨p, c, rfl, hpt⟩ := hb
  have HBv := Lib.hid (show RdB w (.slice p b.length c) b from ⟨p, c, rfl, hpt⟩)
  have HBn := Lib.hid (((HBv.out.keeps ((Keeps.refl w).alloc (.cells zC 30))).keeps ((Keeps.refl _).alloc (.cells #[.slice p b.length c, .int .i64 0, .int .i64 0] 98))).keeps ((Keeps.refl _).alloc (.cells #[.pointer (some ⟨w.heap.size + 1, 0, none⟩)] 70)))
  have Hkd := Lib.hid hkd
  have Hl := Lib.hid hl
  clear hpt hkd
  obtain ⟨zc, hzc⟩ : ∃ zc, zC = zc := ⟨_, rfl⟩
  have hz := hz30
  rw [hzc] at hz
  rw [hzc] at HBn
  have Hzc := Lib.hid hzc
  have hzs : zc.size = 35 := by rw [← hzc]; rfl
  clear hzc
  have HRd := Lib.hid (show Rdr (((w.alloc (.cells zc 30)).alloc (.cells #[.slice p b.length c, .int .i64 0, .int .i64 0] 98)).alloc (.cells #[.pointer (some ⟨w.heap.size + 1, 0, none⟩)] 70)) (w.heap.size + 1) (.slice p b.length c) 0 0 from by
    unfold Rdr
    rw [Below.heap_alloc _ _ _ (by simp)]
    have := heap_alloc_new (w.alloc (.cells zc 30)) (.cells #[.slice p b.length c, .int .i64 0, .int .i64 0] 98)
    rw [heap_alloc_size] at this
    exact this)
  obtain ⟨kc, hkc⟩ : ∃ kc, kC 5 = kc := ⟨_, rfl⟩
  have hks : kc.size = 35 := by rw [← hkc]; rfl
  have HK1 := Lib.hid (show kc.all (·.oneCell') = true by rw [← hkc]; exact cmc_one ..)
  have Hkc := Lib.hid hkc
  clear hkc
  go_enter Try.func21, Try.ntmps21
  go_upto_region 3 with (first
    | (refine wpList_alloc_zero rfl 30 rfl _ hz ?_)
    | (go_at_call 41; (with_reducible refine (new_w p b.length c _).mono ?_); rintro r w1 ⟨rfl, rfl⟩)
    | (go_at_call 42; (with_reducible refine (small_z (w.heap.size + 1) (.slice p b.length c) b 0 0 14 14 rfl _ HRd.out HBn.out (Nat.zero_le _) hl (by decide)).mono ?_); rintro r w2 ⟨n, a0, e0, hs, rfl, hm⟩; have HS := Lib.hid hs; have HM := Lib.hid hm; obtain rfl : n = 5 := (by have h := Hkd.out; rw [hs] at h; exact h); clear hs hm)
    | (refine wpList_plain_value (v := .agg kc) rfl (by rw [← Hkc.out]; exact exec_build30 5 (.tmp 13) rfl rfl) ?_)
    | (refine wpList_store_rowTo rfl 30 (.tmp 5) (.tmp 14) rfl rfl _ kc rfl rfl 30 zc (heap_alloc_new w2 _) (show _ = some kc.size by rw [hks]; kernel_rfl) (by rw [hks, hzs]) HK1.out ?_))
  rw [alloc_setRow]
  have HC0 := Lib.hid (show RC w (w2.alloc (.cells kc 30)) (.slice p b.length c) b (w.heap.size + 1) (w.heap.size + 1 + 1) w2.heap.size (Cm.rd0 b) from by rw [← Hkc.out]; exact RC.begin HBv.out Hl.out (by rw [Hzc.out]; exact HM.out) HS.out)
  obtain ⟨W0, hW0⟩ : ∃ W0, w2.alloc (.cells kc 30) = W0 := ⟨_, rfl⟩
  rw [hW0] at HC0
  rw [hW0]
  obtain ⟨C, hC⟩ : ∃ C, w2.heap.size = C := ⟨_, rfl⟩
  rw [hC] at HC0
  rw [hC]
  obtain ⟨V, hV⟩ : ∃ V, w.heap.size + 1 + 1 = V := ⟨_, rfl⟩
  rw [hV] at HC0
  rw [hV]
  obtain ⟨R, hR⟩ : ∃ R, w.heap.size + 1 = R := ⟨_, rfl⟩
  rw [hR] at HC0
  clear hW0 hC hV hR HRd HBn HBv HM
  have Hfin := Lib.hid (show Cm.rd b = (flds 5).foldl (Cm.rdL b) (Cm.rd0 b) from by unfold Cm.rd; rw [HS.out])
  have Hk0 := Lib.hid (show (Cm.rd0 b).1.cells[0]? = some (.int .u8 5) from by unfold Cm.rd0; rw [HS.out]; rfl)
  obtain ⟨s0, hs0⟩ : ∃ s, Cm.rd0 b = s := ⟨_, rfl⟩
  rw [hs0] at HC0 Hfin Hk0
  clear hs0 HS
  have k0 := (HC0.out.at 0).trans Hk0.out
  have v0 := HC0.out.var
  go_upto_region 47 with (first
    | (go_at_call 58; (with_reducible refine (acct58_w HC0.out).mono ?_); rintro r W1 ⟨rfl, hC⟩; obtain ⟨s1, hq1⟩ : ∃ s, Cm.rdL b s0 97 = s := ⟨_, rfl⟩; rw [hq1] at hC; have HQ1 := Lib.hid hq1; have HC1 := Lib.hid hC; clear hC hq1; have v1 := HC1.out.var)
    | (go_at_call 59; (with_reducible refine (cont59_w HC1.out).mono ?_); rintro r W2 ⟨rfl, hC⟩; obtain ⟨s2, hq2⟩ : ∃ s, Cm.rdL b s1 99 = s := ⟨_, rfl⟩; rw [hq2] at hC; have HQ2 := Lib.hid hq2; have HC2 := Lib.hid hC; clear hC hq2; have v2 := HC2.out.var)
    | (go_at_call 62; (with_reducible refine (rflag_w R _ b s2.2.1 s2.2.2 _ HC2.out.rd HC2.out.bs HC2.out.ha HC2.out.hl HC2.out.offR).mono ?_); rintro r W3 ⟨f3, a3, e3, hs, rfl, hm⟩; have HM3 := Lib.hid (HC2.out.flgs hs hm); have y3 := (HM3.out.at 31).trans (show _ = some (Value.bool s2.1.buy) from rfl); have z3 := HM3.out.thaw 31; have hC := HC2.out.l98 hs hm; clear hs hm; obtain ⟨s3, hq3⟩ : ∃ s, Cm.rdL b s2 98 = s := ⟨_, rfl⟩; rw [hq3] at hC; have HQ3 := Lib.hid hq3; have HC3 := Lib.hid hC; clear hC hq3; have v3 := HC3.out.var)
    | (go_at_call 42; (with_reducible refine (small_z R _ b s3.2.1 s3.2.2 255 255 rfl _ HC3.out.rd HC3.out.bs HC3.out.ha HC3.out.hl (by decide)).mono ?_); rintro r W4 ⟨n4, a4, e4, hs, rfl, hm⟩; have HM4 := Lib.hid (HC3.out.nums hs hm); have hn4 := small_le2 hs; have hw4 : IntKind.u8.wrap (n4 : Int) = (n4 : Int) := IntWalk.u8_in _ (by omega); have y4 := (HM4.out.at 32).trans (show _ = some (Value.int .u8 (s3.1.as_ : Int)) from rfl); have z4 := HM4.out.thaw 32; have hC := HC3.out.l107 hs hm; clear hs hm; obtain ⟨s4, hq4⟩ : ∃ s, Cm.rdL b s3 107 = s := ⟨_, rfl⟩; rw [hq4] at hC; have HQ4 := Lib.hid hq4; have HC4 := Lib.hid hC; clear hC hq4; have v4 := HC4.out.var)
    | (go_at_call 60; (with_reducible refine (rest60_w HC4.out).mono ?_); rintro r W5 ⟨rfl, hC⟩; obtain ⟨s5, hq5⟩ : ∃ s, Cm.rdL b (Cm.rdL b s4 112) 113 = s := ⟨_, rfl⟩; rw [hq5] at hC; have HQ5 := Lib.hid hq5; have HC5 := Lib.hid hC; clear hC hq5; have v5 := HC5.out.var))
  have hfin : Cm.rd b = s5 := by rw [Hfin.out]; show Cm.rdL b (Cm.rdL b (Cm.rdL b (Cm.rdL b (Cm.rdL b (Cm.rdL b (s0) 97) 99) 98) 107) 112) 113 = _; rw [HQ1.out, HQ2.out, HQ3.out, HQ4.out, HQ5.out]
  have Hfi := Lib.hid hfin
  have Hok := Lib.hid HC5.out.ok
  have HC := HC5
  have hv := HC.out.var
  clear hfin v0 v1 v2 v3 v4 v5 k0
  obtain ⟨WL, hWL⟩ : ∃ WL, W5 = WL := ⟨_, rfl⟩
  rw [hWL] at HC hv
  rw [hWL]
  clear hWL
  obtain ⟨cf, hcf⟩ : ∃ cf, s5.1.cells = cf := ⟨_, rfl⟩
  have HCc := Lib.hid (show ∀ W, RC w W (.slice p b.length c) b R V C s5 → CcAt W C cf from fun W h => by rw [← hcf]; exact h.c)
  have hcs : cf.size = 35 := by rw [← hcf]; rfl
  have HCo := Lib.hid (show cf.all (·.oneCell') = true by rw [← hcf]; exact Cm.cells_one _)
  have HZo := Lib.hid (show zc.all (·.oneCell') = true by rw [← Hzc.out]; exact zC_one)
  have HMy := Lib.hid (fun W => (show Calls Try.prog 19 #[.agg cf] W fun e w' => e = .returned (.bool s5.1.mayB) ∧ Below W.heap.size W w' from by rw [← hcf]; exact may19_w s5.1 Hok.out W))
  have Hcf := Lib.hid hcf
  have HCz := Lib.hid (show ∀ W, RC w W (.slice p b.length c) b R V C s5 → W.heap[w.heap.size]? = some (.cells zc 30) from fun W h => by rw [← Hzc.out]; exact h.rz)
  clear hcf
  obtain ⟨d, hd⟩ : ∃ d, Form.done b.length s5.2.1 s5.2.2 = d := ⟨_, rfl⟩
  have HD := Lib.hid hd
  have HDn := Lib.hid (show Calls Try.prog 50 #[.pointer (some ⟨R, 0, none⟩)] WL fun r w' => r = .returned (.int .i64 d) ∧ RegT.Same WL w' from by rw [← hd]; exact done_w R _ b s5.2.1 s5.2.2 WL HC.out.rd HC.out.bs HC.out.ha)
  clear hd
  by_cases h0 : d = 0
  · subst h0
    cases hm : s5.1.mayB with
    | true =>
      have HMt := Lib.hid hm
      rw [hm] at HMy
      clear hm
      go_wp2_with (first
        | (go_at_call 50; (with_reducible refine (HDn.out).mono ?_); rintro r w8 ⟨rfl, hS⟩; have HC8 := Lib.hid (HC.out.same hS); clear hS)
        | (refine wpList_load_cc rfl (.tmp 5) rfl rfl (HCc.out _ HC8.out) hcs ?_)
        | (go_at_call 19; (with_reducible refine (HMy.out _).mono ?_); rintro r w9 ⟨rfl, hB⟩; have HC9 := Lib.hid (HC8.out.keep hB); clear hB)
        | (refine wpList_load_cc rfl (.tmp 5) rfl rfl (HCc.out _ HC9.out) hcs ?_)
        | (refine wpList_store_rowTo rfl 30 (.tmp 2) (.tmp 119) rfl rfl _ cf rfl rfl 30 zc (HCz.out _ HC9.out) (show _ = some cf.size by rw [hcs]; kernel_rfl) (by rw [hcs, hzs]) HCo.out ?_))
      obtain ⟨hend, hres⟩ := HC9.out.result cf
      refine bodyPost_ret (v := .tuple #[.agg cf, .int .i64 0]) (results_cell_tmp rfl _ _ w.heap.size 30 _ _ _ _ rfl rfl hres rfl Try.underlying30 (show _ = some cf.size by rw [hcs]; kernel_rfl)) rfl ?_
      have ha := rdAns_yes Hfi.out HD.out HMt.out hend
      rw [Hcf.out] at ha
      exact ha
    | false =>
      have HMt := Lib.hid hm
      rw [hm] at HMy
      clear hm
      go_wp2_with (first
        | (go_at_call 50; (with_reducible refine (HDn.out).mono ?_); rintro r w8 ⟨rfl, hS⟩; have HC8 := Lib.hid (HC.out.same hS); clear hS)
        | (refine wpList_load_cc rfl (.tmp 5) rfl rfl (HCc.out _ HC8.out) hcs ?_)
        | (go_at_call 19; (with_reducible refine (HMy.out _).mono ?_); rintro r w9 ⟨rfl, hB⟩; have HC9 := Lib.hid (HC8.out.keep hB); clear hB)
        | (refine wpList_plain_value (v := .agg zc) rfl (by rw [← Hzc.out]; exact exec_build30e rfl) ?_)
        | (refine wpList_store_rowTo rfl 30 (.tmp 2) (.tmp 118) rfl rfl _ zc rfl rfl 30 zc (HCz.out _ HC9.out) (show _ = some zc.size by rw [hzs]; kernel_rfl) rfl HZo.out ?_))
      obtain ⟨hend, hres⟩ := HC9.out.result zc
      refine bodyPost_ret (v := .tuple #[.agg zc, .int .i64 5]) (results_cell_tmp rfl _ _ w.heap.size 30 _ _ _ _ rfl rfl hres rfl Try.underlying30 (show _ = some zc.size by rw [hzs]; kernel_rfl)) rfl ?_
      have ha := rdAns_no Hfi.out (.inr HMt.out) hend
      rw [Hzc.out] at ha
      exact ha
  · have hdn : (d != 0) = true := by simpa using h0
    have HD0 := Lib.hid (show Form.done b.length s5.2.1 s5.2.2 ≠ 0 from by rw [HD.out]; exact h0)
    clear h0
    go_wp2_with (first
      | (go_at_call 50; (with_reducible refine (HDn.out).mono ?_); rintro r w8 ⟨rfl, hS⟩; have HC8 := Lib.hid (HC.out.same hS); clear hS)
      | (refine wpList_plain_value (v := .agg zc) rfl (by rw [← Hzc.out]; exact exec_build30e rfl) ?_)
      | (refine wpList_store_rowTo rfl 30 (.tmp 2) (.tmp 118) rfl rfl _ zc rfl rfl 30 zc (HCz.out _ HC8.out) (show _ = some zc.size by rw [hzs]; kernel_rfl) rfl HZo.out ?_))
    obtain ⟨hend, hres⟩ := HC8.out.result zc
    refine bodyPost_ret (v := .tuple #[.agg zc, .int .i64 5]) (results_cell_tmp rfl _ _ w.heap.size 30 _ _ _ _ rfl rfl hres rfl Try.underlying30 (show _ = some zc.size by rw [hzs]; kernel_rfl)) rfl ?_
    have ha := rdAns_no Hfi.out (.inl HD0.out) hend
    rw [Hzc.out] at ha
    exact ha

set_option maxRecDepth 100000 in
set_option maxHeartbeats 12800000 in
theorem read21_6_w (v : Value) (b : List UInt8) (w : World) (hb : RdB w v b) (hl : b.length ≤ 1000000) (hkd : (Form.small b 0 0 14).1 = 6) : Calls Try.prog 21 #[v] w (RdAns w b) := by
  obtain ⟨p, c, rfl, hpt⟩ := hb
  have HBv := Lib.hid (show RdB w (.slice p b.length c) b from ⟨p, c, rfl, hpt⟩)
  have HBn := Lib.hid (((HBv.out.keeps ((Keeps.refl w).alloc (.cells zC 30))).keeps ((Keeps.refl _).alloc (.cells #[.slice p b.length c, .int .i64 0, .int .i64 0] 98))).keeps ((Keeps.refl _).alloc (.cells #[.pointer (some ⟨w.heap.size + 1, 0, none⟩)] 70)))
  have Hkd := Lib.hid hkd
  have Hl := Lib.hid hl
  clear hpt hkd
  obtain ⟨zc, hzc⟩ : ∃ zc, zC = zc := ⟨_, rfl⟩
  have hz := hz30
  rw [hzc] at hz
  rw [hzc] at HBn
  have Hzc := Lib.hid hzc
  have hzs : zc.size = 35 := by rw [← hzc]; rfl
  clear hzc
  have HRd := Lib.hid (show Rdr (((w.alloc (.cells zc 30)).alloc (.cells #[.slice p b.length c, .int .i64 0, .int .i64 0] 98)).alloc (.cells #[.pointer (some ⟨w.heap.size + 1, 0, none⟩)] 70)) (w.heap.size + 1) (.slice p b.length c) 0 0 from by
    unfold Rdr
    rw [Below.heap_alloc _ _ _ (by simp)]
    have := heap_alloc_new (w.alloc (.cells zc 30)) (.cells #[.slice p b.length c, .int .i64 0, .int .i64 0] 98)
    rw [heap_alloc_size] at this
    exact this)
  obtain ⟨kc, hkc⟩ : ∃ kc, kC 6 = kc := ⟨_, rfl⟩
  have hks : kc.size = 35 := by rw [← hkc]; rfl
  have HK1 := Lib.hid (show kc.all (·.oneCell') = true by rw [← hkc]; exact cmc_one ..)
  have Hkc := Lib.hid hkc
  clear hkc
  go_enter Try.func21, Try.ntmps21
  go_upto_region 3 with (first
    | (refine wpList_alloc_zero rfl 30 rfl _ hz ?_)
    | (go_at_call 41; (with_reducible refine (new_w p b.length c _).mono ?_); rintro r w1 ⟨rfl, rfl⟩)
    | (go_at_call 42; (with_reducible refine (small_z (w.heap.size + 1) (.slice p b.length c) b 0 0 14 14 rfl _ HRd.out HBn.out (Nat.zero_le _) hl (by decide)).mono ?_); rintro r w2 ⟨n, a0, e0, hs, rfl, hm⟩; have HS := Lib.hid hs; have HM := Lib.hid hm; obtain rfl : n = 6 := (by have h := Hkd.out; rw [hs] at h; exact h); clear hs hm)
    | (refine wpList_plain_value (v := .agg kc) rfl (by rw [← Hkc.out]; exact exec_build30 6 (.tmp 13) rfl rfl) ?_)
    | (refine wpList_store_rowTo rfl 30 (.tmp 5) (.tmp 14) rfl rfl _ kc rfl rfl 30 zc (heap_alloc_new w2 _) (show _ = some kc.size by rw [hks]; kernel_rfl) (by rw [hks, hzs]) HK1.out ?_))
  rw [alloc_setRow]
  have HC0 := Lib.hid (show RC w (w2.alloc (.cells kc 30)) (.slice p b.length c) b (w.heap.size + 1) (w.heap.size + 1 + 1) w2.heap.size (Cm.rd0 b) from by rw [← Hkc.out]; exact RC.begin HBv.out Hl.out (by rw [Hzc.out]; exact HM.out) HS.out)
  obtain ⟨W0, hW0⟩ : ∃ W0, w2.alloc (.cells kc 30) = W0 := ⟨_, rfl⟩
  rw [hW0] at HC0
  rw [hW0]
  obtain ⟨C, hC⟩ : ∃ C, w2.heap.size = C := ⟨_, rfl⟩
  rw [hC] at HC0
  rw [hC]
  obtain ⟨V, hV⟩ : ∃ V, w.heap.size + 1 + 1 = V := ⟨_, rfl⟩
  rw [hV] at HC0
  rw [hV]
  obtain ⟨R, hR⟩ : ∃ R, w.heap.size + 1 = R := ⟨_, rfl⟩
  rw [hR] at HC0
  clear hW0 hC hV hR HRd HBn HBv HM
  have Hfin := Lib.hid (show Cm.rd b = (flds 6).foldl (Cm.rdL b) (Cm.rd0 b) from by unfold Cm.rd; rw [HS.out])
  have Hk0 := Lib.hid (show (Cm.rd0 b).1.cells[0]? = some (.int .u8 6) from by unfold Cm.rd0; rw [HS.out]; rfl)
  obtain ⟨s0, hs0⟩ : ∃ s, Cm.rd0 b = s := ⟨_, rfl⟩
  rw [hs0] at HC0 Hfin Hk0
  clear hs0 HS
  have k0 := (HC0.out.at 0).trans Hk0.out
  have v0 := HC0.out.var
  go_upto_region 47 with (first
    | (go_at_call 58; (with_reducible refine (acct58_w HC0.out).mono ?_); rintro r W1 ⟨rfl, hC⟩; obtain ⟨s1, hq1⟩ : ∃ s, Cm.rdL b s0 97 = s := ⟨_, rfl⟩; rw [hq1] at hC; have HQ1 := Lib.hid hq1; have HC1 := Lib.hid hC; clear hC hq1; have v1 := HC1.out.var)
    | (go_at_call 43; (with_reducible refine (rnat_w R _ b s1.2.1 s1.2.2 _ HC1.out.rd HC1.out.bs HC1.out.ha HC1.out.hl).mono ?_); rintro r W2 ⟨n2, a2, e2, hs, rfl, hm⟩; have HM2 := Lib.hid (HC1.out.nums hs hm); have y2 := (HM2.out.at 3).trans (show _ = some (Value.int .u64 (s1.1.number : Int)) from rfl); have z2 := HM2.out.thaw 3; have hC := HC1.out.l110 hs hm; clear hs hm; obtain ⟨s2, hq2⟩ : ∃ s, Cm.rdL b s1 110 = s := ⟨_, rfl⟩; rw [hq2] at hC; have HQ2 := Lib.hid hq2; have HC2 := Lib.hid hC; clear hC hq2; have v2 := HC2.out.var))
  have hfin : Cm.rd b = s2 := by rw [Hfin.out]; show Cm.rdL b (Cm.rdL b (s0) 97) 110 = _; rw [HQ1.out, HQ2.out]
  have Hfi := Lib.hid hfin
  have Hok := Lib.hid HC2.out.ok
  have HC := HC2
  have hv := HC.out.var
  clear hfin v0 v1 v2 k0
  obtain ⟨WL, hWL⟩ : ∃ WL, (W2.setCell ⟨C, 3, none⟩ (.int .u64 (n2 : Int))) = WL := ⟨_, rfl⟩
  rw [hWL] at HC hv
  rw [hWL]
  clear hWL
  obtain ⟨cf, hcf⟩ : ∃ cf, s2.1.cells = cf := ⟨_, rfl⟩
  have HCc := Lib.hid (show ∀ W, RC w W (.slice p b.length c) b R V C s2 → CcAt W C cf from fun W h => by rw [← hcf]; exact h.c)
  have hcs : cf.size = 35 := by rw [← hcf]; rfl
  have HCo := Lib.hid (show cf.all (·.oneCell') = true by rw [← hcf]; exact Cm.cells_one _)
  have HZo := Lib.hid (show zc.all (·.oneCell') = true by rw [← Hzc.out]; exact zC_one)
  have HMy := Lib.hid (fun W => (show Calls Try.prog 19 #[.agg cf] W fun e w' => e = .returned (.bool s2.1.mayB) ∧ Below W.heap.size W w' from by rw [← hcf]; exact may19_w s2.1 Hok.out W))
  have Hcf := Lib.hid hcf
  have HCz := Lib.hid (show ∀ W, RC w W (.slice p b.length c) b R V C s2 → W.heap[w.heap.size]? = some (.cells zc 30) from fun W h => by rw [← Hzc.out]; exact h.rz)
  clear hcf
  obtain ⟨d, hd⟩ : ∃ d, Form.done b.length s2.2.1 s2.2.2 = d := ⟨_, rfl⟩
  have HD := Lib.hid hd
  have HDn := Lib.hid (show Calls Try.prog 50 #[.pointer (some ⟨R, 0, none⟩)] WL fun r w' => r = .returned (.int .i64 d) ∧ RegT.Same WL w' from by rw [← hd]; exact done_w R _ b s2.2.1 s2.2.2 WL HC.out.rd HC.out.bs HC.out.ha)
  clear hd
  by_cases h0 : d = 0
  · subst h0
    cases hm : s2.1.mayB with
    | true =>
      have HMt := Lib.hid hm
      rw [hm] at HMy
      clear hm
      go_wp2_with (first
        | (go_at_call 50; (with_reducible refine (HDn.out).mono ?_); rintro r w8 ⟨rfl, hS⟩; have HC8 := Lib.hid (HC.out.same hS); clear hS)
        | (refine wpList_load_cc rfl (.tmp 5) rfl rfl (HCc.out _ HC8.out) hcs ?_)
        | (go_at_call 19; (with_reducible refine (HMy.out _).mono ?_); rintro r w9 ⟨rfl, hB⟩; have HC9 := Lib.hid (HC8.out.keep hB); clear hB)
        | (refine wpList_load_cc rfl (.tmp 5) rfl rfl (HCc.out _ HC9.out) hcs ?_)
        | (refine wpList_store_rowTo rfl 30 (.tmp 2) (.tmp 119) rfl rfl _ cf rfl rfl 30 zc (HCz.out _ HC9.out) (show _ = some cf.size by rw [hcs]; kernel_rfl) (by rw [hcs, hzs]) HCo.out ?_))
      obtain ⟨hend, hres⟩ := HC9.out.result cf
      refine bodyPost_ret (v := .tuple #[.agg cf, .int .i64 0]) (results_cell_tmp rfl _ _ w.heap.size 30 _ _ _ _ rfl rfl hres rfl Try.underlying30 (show _ = some cf.size by rw [hcs]; kernel_rfl)) rfl ?_
      have ha := rdAns_yes Hfi.out HD.out HMt.out hend
      rw [Hcf.out] at ha
      exact ha
    | false =>
      have HMt := Lib.hid hm
      rw [hm] at HMy
      clear hm
      go_wp2_with (first
        | (go_at_call 50; (with_reducible refine (HDn.out).mono ?_); rintro r w8 ⟨rfl, hS⟩; have HC8 := Lib.hid (HC.out.same hS); clear hS)
        | (refine wpList_load_cc rfl (.tmp 5) rfl rfl (HCc.out _ HC8.out) hcs ?_)
        | (go_at_call 19; (with_reducible refine (HMy.out _).mono ?_); rintro r w9 ⟨rfl, hB⟩; have HC9 := Lib.hid (HC8.out.keep hB); clear hB)
        | (refine wpList_plain_value (v := .agg zc) rfl (by rw [← Hzc.out]; exact exec_build30e rfl) ?_)
        | (refine wpList_store_rowTo rfl 30 (.tmp 2) (.tmp 118) rfl rfl _ zc rfl rfl 30 zc (HCz.out _ HC9.out) (show _ = some zc.size by rw [hzs]; kernel_rfl) rfl HZo.out ?_))
      obtain ⟨hend, hres⟩ := HC9.out.result zc
      refine bodyPost_ret (v := .tuple #[.agg zc, .int .i64 5]) (results_cell_tmp rfl _ _ w.heap.size 30 _ _ _ _ rfl rfl hres rfl Try.underlying30 (show _ = some zc.size by rw [hzs]; kernel_rfl)) rfl ?_
      have ha := rdAns_no Hfi.out (.inr HMt.out) hend
      rw [Hzc.out] at ha
      exact ha
  · have hdn : (d != 0) = true := by simpa using h0
    have HD0 := Lib.hid (show Form.done b.length s2.2.1 s2.2.2 ≠ 0 from by rw [HD.out]; exact h0)
    clear h0
    go_wp2_with (first
      | (go_at_call 50; (with_reducible refine (HDn.out).mono ?_); rintro r w8 ⟨rfl, hS⟩; have HC8 := Lib.hid (HC.out.same hS); clear hS)
      | (refine wpList_plain_value (v := .agg zc) rfl (by rw [← Hzc.out]; exact exec_build30e rfl) ?_)
      | (refine wpList_store_rowTo rfl 30 (.tmp 2) (.tmp 118) rfl rfl _ zc rfl rfl 30 zc (HCz.out _ HC8.out) (show _ = some zc.size by rw [hzs]; kernel_rfl) rfl HZo.out ?_))
    obtain ⟨hend, hres⟩ := HC8.out.result zc
    refine bodyPost_ret (v := .tuple #[.agg zc, .int .i64 5]) (results_cell_tmp rfl _ _ w.heap.size 30 _ _ _ _ rfl rfl hres rfl Try.underlying30 (show _ = some zc.size by rw [hzs]; kernel_rfl)) rfl ?_
    have ha := rdAns_no Hfi.out (.inl HD0.out) hend
    rw [Hzc.out] at ha
    exact ha

set_option maxRecDepth 100000 in
set_option maxHeartbeats 12800000 in
theorem read21_7_w (v : Value) (b : List UInt8) (w : World) (hb : RdB w v b) (hl : b.length ≤ 1000000) (hkd : (Form.small b 0 0 14).1 = 7) : Calls Try.prog 21 #[v] w (RdAns w b) := by
  obtain ⟨p, c, rfl, hpt⟩ := hb
  have HBv := Lib.hid (show RdB w (.slice p b.length c) b from ⟨p, c, rfl, hpt⟩)
  have HBn := Lib.hid (((HBv.out.keeps ((Keeps.refl w).alloc (.cells zC 30))).keeps ((Keeps.refl _).alloc (.cells #[.slice p b.length c, .int .i64 0, .int .i64 0] 98))).keeps ((Keeps.refl _).alloc (.cells #[.pointer (some ⟨w.heap.size + 1, 0, none⟩)] 70)))
  have Hkd := Lib.hid hkd
  have Hl := Lib.hid hl
  clear hpt hkd
  obtain ⟨zc, hzc⟩ : ∃ zc, zC = zc := ⟨_, rfl⟩
  have hz := hz30
  rw [hzc] at hz
  rw [hzc] at HBn
  have Hzc := Lib.hid hzc
  have hzs : zc.size = 35 := by rw [← hzc]; rfl
  clear hzc
  have HRd := Lib.hid (show Rdr (((w.alloc (.cells zc 30)).alloc (.cells #[.slice p b.length c, .int .i64 0, .int .i64 0] 98)).alloc (.cells #[.pointer (some ⟨w.heap.size + 1, 0, none⟩)] 70)) (w.heap.size + 1) (.slice p b.length c) 0 0 from by
    unfold Rdr
    rw [Below.heap_alloc _ _ _ (by simp)]
    have := heap_alloc_new (w.alloc (.cells zc 30)) (.cells #[.slice p b.length c, .int .i64 0, .int .i64 0] 98)
    rw [heap_alloc_size] at this
    exact this)
  obtain ⟨kc, hkc⟩ : ∃ kc, kC 7 = kc := ⟨_, rfl⟩
  have hks : kc.size = 35 := by rw [← hkc]; rfl
  have HK1 := Lib.hid (show kc.all (·.oneCell') = true by rw [← hkc]; exact cmc_one ..)
  have Hkc := Lib.hid hkc
  clear hkc
  go_enter Try.func21, Try.ntmps21
  go_upto_region 3 with (first
    | (refine wpList_alloc_zero rfl 30 rfl _ hz ?_)
    | (go_at_call 41; (with_reducible refine (new_w p b.length c _).mono ?_); rintro r w1 ⟨rfl, rfl⟩)
    | (go_at_call 42; (with_reducible refine (small_z (w.heap.size + 1) (.slice p b.length c) b 0 0 14 14 rfl _ HRd.out HBn.out (Nat.zero_le _) hl (by decide)).mono ?_); rintro r w2 ⟨n, a0, e0, hs, rfl, hm⟩; have HS := Lib.hid hs; have HM := Lib.hid hm; obtain rfl : n = 7 := (by have h := Hkd.out; rw [hs] at h; exact h); clear hs hm)
    | (refine wpList_plain_value (v := .agg kc) rfl (by rw [← Hkc.out]; exact exec_build30 7 (.tmp 13) rfl rfl) ?_)
    | (refine wpList_store_rowTo rfl 30 (.tmp 5) (.tmp 14) rfl rfl _ kc rfl rfl 30 zc (heap_alloc_new w2 _) (show _ = some kc.size by rw [hks]; kernel_rfl) (by rw [hks, hzs]) HK1.out ?_))
  rw [alloc_setRow]
  have HC0 := Lib.hid (show RC w (w2.alloc (.cells kc 30)) (.slice p b.length c) b (w.heap.size + 1) (w.heap.size + 1 + 1) w2.heap.size (Cm.rd0 b) from by rw [← Hkc.out]; exact RC.begin HBv.out Hl.out (by rw [Hzc.out]; exact HM.out) HS.out)
  obtain ⟨W0, hW0⟩ : ∃ W0, w2.alloc (.cells kc 30) = W0 := ⟨_, rfl⟩
  rw [hW0] at HC0
  rw [hW0]
  obtain ⟨C, hC⟩ : ∃ C, w2.heap.size = C := ⟨_, rfl⟩
  rw [hC] at HC0
  rw [hC]
  obtain ⟨V, hV⟩ : ∃ V, w.heap.size + 1 + 1 = V := ⟨_, rfl⟩
  rw [hV] at HC0
  rw [hV]
  obtain ⟨R, hR⟩ : ∃ R, w.heap.size + 1 = R := ⟨_, rfl⟩
  rw [hR] at HC0
  clear hW0 hC hV hR HRd HBn HBv HM
  have Hfin := Lib.hid (show Cm.rd b = (flds 7).foldl (Cm.rdL b) (Cm.rd0 b) from by unfold Cm.rd; rw [HS.out])
  have Hk0 := Lib.hid (show (Cm.rd0 b).1.cells[0]? = some (.int .u8 7) from by unfold Cm.rd0; rw [HS.out]; rfl)
  obtain ⟨s0, hs0⟩ : ∃ s, Cm.rd0 b = s := ⟨_, rfl⟩
  rw [hs0] at HC0 Hfin Hk0
  clear hs0 HS
  have k0 := (HC0.out.at 0).trans Hk0.out
  have v0 := HC0.out.var
  go_upto_region 47 with (first
    | (go_at_call 58; (with_reducible refine (acct58_w HC0.out).mono ?_); rintro r W1 ⟨rfl, hC⟩; obtain ⟨s1, hq1⟩ : ∃ s, Cm.rdL b s0 97 = s := ⟨_, rfl⟩; rw [hq1] at hC; have HQ1 := Lib.hid hq1; have HC1 := Lib.hid hC; clear hC hq1; have v1 := HC1.out.var)
    | (go_at_call 43; (with_reducible refine (rnat_w R _ b s1.2.1 s1.2.2 _ HC1.out.rd HC1.out.bs HC1.out.ha HC1.out.hl).mono ?_); rintro r W2 ⟨n2, a2, e2, hs, rfl, hm⟩; have HM2 := Lib.hid (HC1.out.nums hs hm); have y2 := (HM2.out.at 3).trans (show _ = some (Value.int .u64 (s1.1.number : Int)) from rfl); have z2 := HM2.out.thaw 3; have hC := HC1.out.l110 hs hm; clear hs hm; obtain ⟨s2, hq2⟩ : ∃ s, Cm.rdL b s1 110 = s := ⟨_, rfl⟩; rw [hq2] at hC; have HQ2 := Lib.hid hq2; have HC2 := Lib.hid hC; clear hC hq2; have v2 := HC2.out.var)
    | (go_at_call 60; (with_reducible refine (rest60_w HC2.out).mono ?_); rintro r W3 ⟨rfl, hC⟩; obtain ⟨s3, hq3⟩ : ∃ s, Cm.rdL b (Cm.rdL b s2 112) 113 = s := ⟨_, rfl⟩; rw [hq3] at hC; have HQ3 := Lib.hid hq3; have HC3 := Lib.hid hC; clear hC hq3; have v3 := HC3.out.var))
  have hfin : Cm.rd b = s3 := by rw [Hfin.out]; show Cm.rdL b (Cm.rdL b (Cm.rdL b (Cm.rdL b (s0) 97) 110) 112) 113 = _; rw [HQ1.out, HQ2.out, HQ3.out]
  have Hfi := Lib.hid hfin
  have Hok := Lib.hid HC3.out.ok
  have HC := HC3
  have hv := HC.out.var
  clear hfin v0 v1 v2 v3 k0
  obtain ⟨WL, hWL⟩ : ∃ WL, W3 = WL := ⟨_, rfl⟩
  rw [hWL] at HC hv
  rw [hWL]
  clear hWL
  obtain ⟨cf, hcf⟩ : ∃ cf, s3.1.cells = cf := ⟨_, rfl⟩
  have HCc := Lib.hid (show ∀ W, RC w W (.slice p b.length c) b R V C s3 → CcAt W C cf from fun W h => by rw [← hcf]; exact h.c)
  have hcs : cf.size = 35 := by rw [← hcf]; rfl
  have HCo := Lib.hid (show cf.all (·.oneCell') = true by rw [← hcf]; exact Cm.cells_one _)
  have HZo := Lib.hid (show zc.all (·.oneCell') = true by rw [← Hzc.out]; exact zC_one)
  have HMy := Lib.hid (fun W => (show Calls Try.prog 19 #[.agg cf] W fun e w' => e = .returned (.bool s3.1.mayB) ∧ Below W.heap.size W w' from by rw [← hcf]; exact may19_w s3.1 Hok.out W))
  have Hcf := Lib.hid hcf
  have HCz := Lib.hid (show ∀ W, RC w W (.slice p b.length c) b R V C s3 → W.heap[w.heap.size]? = some (.cells zc 30) from fun W h => by rw [← Hzc.out]; exact h.rz)
  clear hcf
  obtain ⟨d, hd⟩ : ∃ d, Form.done b.length s3.2.1 s3.2.2 = d := ⟨_, rfl⟩
  have HD := Lib.hid hd
  have HDn := Lib.hid (show Calls Try.prog 50 #[.pointer (some ⟨R, 0, none⟩)] WL fun r w' => r = .returned (.int .i64 d) ∧ RegT.Same WL w' from by rw [← hd]; exact done_w R _ b s3.2.1 s3.2.2 WL HC.out.rd HC.out.bs HC.out.ha)
  clear hd
  by_cases h0 : d = 0
  · subst h0
    cases hm : s3.1.mayB with
    | true =>
      have HMt := Lib.hid hm
      rw [hm] at HMy
      clear hm
      go_wp2_with (first
        | (go_at_call 50; (with_reducible refine (HDn.out).mono ?_); rintro r w8 ⟨rfl, hS⟩; have HC8 := Lib.hid (HC.out.same hS); clear hS)
        | (refine wpList_load_cc rfl (.tmp 5) rfl rfl (HCc.out _ HC8.out) hcs ?_)
        | (go_at_call 19; (with_reducible refine (HMy.out _).mono ?_); rintro r w9 ⟨rfl, hB⟩; have HC9 := Lib.hid (HC8.out.keep hB); clear hB)
        | (refine wpList_load_cc rfl (.tmp 5) rfl rfl (HCc.out _ HC9.out) hcs ?_)
        | (refine wpList_store_rowTo rfl 30 (.tmp 2) (.tmp 119) rfl rfl _ cf rfl rfl 30 zc (HCz.out _ HC9.out) (show _ = some cf.size by rw [hcs]; kernel_rfl) (by rw [hcs, hzs]) HCo.out ?_))
      obtain ⟨hend, hres⟩ := HC9.out.result cf
      refine bodyPost_ret (v := .tuple #[.agg cf, .int .i64 0]) (results_cell_tmp rfl _ _ w.heap.size 30 _ _ _ _ rfl rfl hres rfl Try.underlying30 (show _ = some cf.size by rw [hcs]; kernel_rfl)) rfl ?_
      have ha := rdAns_yes Hfi.out HD.out HMt.out hend
      rw [Hcf.out] at ha
      exact ha
    | false =>
      have HMt := Lib.hid hm
      rw [hm] at HMy
      clear hm
      go_wp2_with (first
        | (go_at_call 50; (with_reducible refine (HDn.out).mono ?_); rintro r w8 ⟨rfl, hS⟩; have HC8 := Lib.hid (HC.out.same hS); clear hS)
        | (refine wpList_load_cc rfl (.tmp 5) rfl rfl (HCc.out _ HC8.out) hcs ?_)
        | (go_at_call 19; (with_reducible refine (HMy.out _).mono ?_); rintro r w9 ⟨rfl, hB⟩; have HC9 := Lib.hid (HC8.out.keep hB); clear hB)
        | (refine wpList_plain_value (v := .agg zc) rfl (by rw [← Hzc.out]; exact exec_build30e rfl) ?_)
        | (refine wpList_store_rowTo rfl 30 (.tmp 2) (.tmp 118) rfl rfl _ zc rfl rfl 30 zc (HCz.out _ HC9.out) (show _ = some zc.size by rw [hzs]; kernel_rfl) rfl HZo.out ?_))
      obtain ⟨hend, hres⟩ := HC9.out.result zc
      refine bodyPost_ret (v := .tuple #[.agg zc, .int .i64 5]) (results_cell_tmp rfl _ _ w.heap.size 30 _ _ _ _ rfl rfl hres rfl Try.underlying30 (show _ = some zc.size by rw [hzs]; kernel_rfl)) rfl ?_
      have ha := rdAns_no Hfi.out (.inr HMt.out) hend
      rw [Hzc.out] at ha
      exact ha
  · have hdn : (d != 0) = true := by simpa using h0
    have HD0 := Lib.hid (show Form.done b.length s3.2.1 s3.2.2 ≠ 0 from by rw [HD.out]; exact h0)
    clear h0
    go_wp2_with (first
      | (go_at_call 50; (with_reducible refine (HDn.out).mono ?_); rintro r w8 ⟨rfl, hS⟩; have HC8 := Lib.hid (HC.out.same hS); clear hS)
      | (refine wpList_plain_value (v := .agg zc) rfl (by rw [← Hzc.out]; exact exec_build30e rfl) ?_)
      | (refine wpList_store_rowTo rfl 30 (.tmp 2) (.tmp 118) rfl rfl _ zc rfl rfl 30 zc (HCz.out _ HC8.out) (show _ = some zc.size by rw [hzs]; kernel_rfl) rfl HZo.out ?_))
    obtain ⟨hend, hres⟩ := HC8.out.result zc
    refine bodyPost_ret (v := .tuple #[.agg zc, .int .i64 5]) (results_cell_tmp rfl _ _ w.heap.size 30 _ _ _ _ rfl rfl hres rfl Try.underlying30 (show _ = some zc.size by rw [hzs]; kernel_rfl)) rfl ?_
    have ha := rdAns_no Hfi.out (.inl HD0.out) hend
    rw [Hzc.out] at ha
    exact ha

set_option maxRecDepth 100000 in
set_option maxHeartbeats 12800000 in
theorem read21_8_w (v : Value) (b : List UInt8) (w : World) (hb : RdB w v b) (hl : b.length ≤ 1000000) (hkd : (Form.small b 0 0 14).1 = 8) : Calls Try.prog 21 #[v] w (RdAns w b) := by
  obtain ⟨p, c, rfl, hpt⟩ := hb
  have HBv := Lib.hid (show RdB w (.slice p b.length c) b from ⟨p, c, rfl, hpt⟩)
  have HBn := Lib.hid (((HBv.out.keeps ((Keeps.refl w).alloc (.cells zC 30))).keeps ((Keeps.refl _).alloc (.cells #[.slice p b.length c, .int .i64 0, .int .i64 0] 98))).keeps ((Keeps.refl _).alloc (.cells #[.pointer (some ⟨w.heap.size + 1, 0, none⟩)] 70)))
  have Hkd := Lib.hid hkd
  have Hl := Lib.hid hl
  clear hpt hkd
  obtain ⟨zc, hzc⟩ : ∃ zc, zC = zc := ⟨_, rfl⟩
  have hz := hz30
  rw [hzc] at hz
  rw [hzc] at HBn
  have Hzc := Lib.hid hzc
  have hzs : zc.size = 35 := by rw [← hzc]; rfl
  clear hzc
  have HRd := Lib.hid (show Rdr (((w.alloc (.cells zc 30)).alloc (.cells #[.slice p b.length c, .int .i64 0, .int .i64 0] 98)).alloc (.cells #[.pointer (some ⟨w.heap.size + 1, 0, none⟩)] 70)) (w.heap.size + 1) (.slice p b.length c) 0 0 from by
    unfold Rdr
    rw [Below.heap_alloc _ _ _ (by simp)]
    have := heap_alloc_new (w.alloc (.cells zc 30)) (.cells #[.slice p b.length c, .int .i64 0, .int .i64 0] 98)
    rw [heap_alloc_size] at this
    exact this)
  obtain ⟨kc, hkc⟩ : ∃ kc, kC 8 = kc := ⟨_, rfl⟩
  have hks : kc.size = 35 := by rw [← hkc]; rfl
  have HK1 := Lib.hid (show kc.all (·.oneCell') = true by rw [← hkc]; exact cmc_one ..)
  have Hkc := Lib.hid hkc
  clear hkc
  go_enter Try.func21, Try.ntmps21
  go_upto_region 3 with (first
    | (refine wpList_alloc_zero rfl 30 rfl _ hz ?_)
    | (go_at_call 41; (with_reducible refine (new_w p b.length c _).mono ?_); rintro r w1 ⟨rfl, rfl⟩)
    | (go_at_call 42; (with_reducible refine (small_z (w.heap.size + 1) (.slice p b.length c) b 0 0 14 14 rfl _ HRd.out HBn.out (Nat.zero_le _) hl (by decide)).mono ?_); rintro r w2 ⟨n, a0, e0, hs, rfl, hm⟩; have HS := Lib.hid hs; have HM := Lib.hid hm; obtain rfl : n = 8 := (by have h := Hkd.out; rw [hs] at h; exact h); clear hs hm)
    | (refine wpList_plain_value (v := .agg kc) rfl (by rw [← Hkc.out]; exact exec_build30 8 (.tmp 13) rfl rfl) ?_)
    | (refine wpList_store_rowTo rfl 30 (.tmp 5) (.tmp 14) rfl rfl _ kc rfl rfl 30 zc (heap_alloc_new w2 _) (show _ = some kc.size by rw [hks]; kernel_rfl) (by rw [hks, hzs]) HK1.out ?_))
  rw [alloc_setRow]
  have HC0 := Lib.hid (show RC w (w2.alloc (.cells kc 30)) (.slice p b.length c) b (w.heap.size + 1) (w.heap.size + 1 + 1) w2.heap.size (Cm.rd0 b) from by rw [← Hkc.out]; exact RC.begin HBv.out Hl.out (by rw [Hzc.out]; exact HM.out) HS.out)
  obtain ⟨W0, hW0⟩ : ∃ W0, w2.alloc (.cells kc 30) = W0 := ⟨_, rfl⟩
  rw [hW0] at HC0
  rw [hW0]
  obtain ⟨C, hC⟩ : ∃ C, w2.heap.size = C := ⟨_, rfl⟩
  rw [hC] at HC0
  rw [hC]
  obtain ⟨V, hV⟩ : ∃ V, w.heap.size + 1 + 1 = V := ⟨_, rfl⟩
  rw [hV] at HC0
  rw [hV]
  obtain ⟨R, hR⟩ : ∃ R, w.heap.size + 1 = R := ⟨_, rfl⟩
  rw [hR] at HC0
  clear hW0 hC hV hR HRd HBn HBv HM
  have Hfin := Lib.hid (show Cm.rd b = (flds 8).foldl (Cm.rdL b) (Cm.rd0 b) from by unfold Cm.rd; rw [HS.out])
  have Hk0 := Lib.hid (show (Cm.rd0 b).1.cells[0]? = some (.int .u8 8) from by unfold Cm.rd0; rw [HS.out]; rfl)
  obtain ⟨s0, hs0⟩ : ∃ s, Cm.rd0 b = s := ⟨_, rfl⟩
  rw [hs0] at HC0 Hfin Hk0
  clear hs0 HS
  have k0 := (HC0.out.at 0).trans Hk0.out
  have v0 := HC0.out.var
  go_upto_region 47 with (first
    | (go_at_call 58; (with_reducible refine (acct58_w HC0.out).mono ?_); rintro r W1 ⟨rfl, hC⟩; obtain ⟨s1, hq1⟩ : ∃ s, Cm.rdL b s0 97 = s := ⟨_, rfl⟩; rw [hq1] at hC; have HQ1 := Lib.hid hq1; have HC1 := Lib.hid hC; clear hC hq1; have v1 := HC1.out.var)
    | (go_at_call 59; (with_reducible refine (cont59_w HC1.out).mono ?_); rintro r W2 ⟨rfl, hC⟩; obtain ⟨s2, hq2⟩ : ∃ s, Cm.rdL b s1 99 = s := ⟨_, rfl⟩; rw [hq2] at hC; have HQ2 := Lib.hid hq2; have HC2 := Lib.hid hC; clear hC hq2; have v2 := HC2.out.var))
  have hfin : Cm.rd b = s2 := by rw [Hfin.out]; show Cm.rdL b (Cm.rdL b (s0) 97) 99 = _; rw [HQ1.out, HQ2.out]
  have Hfi := Lib.hid hfin
  have Hok := Lib.hid HC2.out.ok
  have HC := HC2
  have hv := HC.out.var
  clear hfin v0 v1 v2 k0
  obtain ⟨WL, hWL⟩ : ∃ WL, W2 = WL := ⟨_, rfl⟩
  rw [hWL] at HC hv
  rw [hWL]
  clear hWL
  obtain ⟨cf, hcf⟩ : ∃ cf, s2.1.cells = cf := ⟨_, rfl⟩
  have HCc := Lib.hid (show ∀ W, RC w W (.slice p b.length c) b R V C s2 → CcAt W C cf from fun W h => by rw [← hcf]; exact h.c)
  have hcs : cf.size = 35 := by rw [← hcf]; rfl
  have HCo := Lib.hid (show cf.all (·.oneCell') = true by rw [← hcf]; exact Cm.cells_one _)
  have HZo := Lib.hid (show zc.all (·.oneCell') = true by rw [← Hzc.out]; exact zC_one)
  have HMy := Lib.hid (fun W => (show Calls Try.prog 19 #[.agg cf] W fun e w' => e = .returned (.bool s2.1.mayB) ∧ Below W.heap.size W w' from by rw [← hcf]; exact may19_w s2.1 Hok.out W))
  have Hcf := Lib.hid hcf
  have HCz := Lib.hid (show ∀ W, RC w W (.slice p b.length c) b R V C s2 → W.heap[w.heap.size]? = some (.cells zc 30) from fun W h => by rw [← Hzc.out]; exact h.rz)
  clear hcf
  obtain ⟨d, hd⟩ : ∃ d, Form.done b.length s2.2.1 s2.2.2 = d := ⟨_, rfl⟩
  have HD := Lib.hid hd
  have HDn := Lib.hid (show Calls Try.prog 50 #[.pointer (some ⟨R, 0, none⟩)] WL fun r w' => r = .returned (.int .i64 d) ∧ RegT.Same WL w' from by rw [← hd]; exact done_w R _ b s2.2.1 s2.2.2 WL HC.out.rd HC.out.bs HC.out.ha)
  clear hd
  by_cases h0 : d = 0
  · subst h0
    cases hm : s2.1.mayB with
    | true =>
      have HMt := Lib.hid hm
      rw [hm] at HMy
      clear hm
      go_wp2_with (first
        | (go_at_call 50; (with_reducible refine (HDn.out).mono ?_); rintro r w8 ⟨rfl, hS⟩; have HC8 := Lib.hid (HC.out.same hS); clear hS)
        | (refine wpList_load_cc rfl (.tmp 5) rfl rfl (HCc.out _ HC8.out) hcs ?_)
        | (go_at_call 19; (with_reducible refine (HMy.out _).mono ?_); rintro r w9 ⟨rfl, hB⟩; have HC9 := Lib.hid (HC8.out.keep hB); clear hB)
        | (refine wpList_load_cc rfl (.tmp 5) rfl rfl (HCc.out _ HC9.out) hcs ?_)
        | (refine wpList_store_rowTo rfl 30 (.tmp 2) (.tmp 119) rfl rfl _ cf rfl rfl 30 zc (HCz.out _ HC9.out) (show _ = some cf.size by rw [hcs]; kernel_rfl) (by rw [hcs, hzs]) HCo.out ?_))
      obtain ⟨hend, hres⟩ := HC9.out.result cf
      refine bodyPost_ret (v := .tuple #[.agg cf, .int .i64 0]) (results_cell_tmp rfl _ _ w.heap.size 30 _ _ _ _ rfl rfl hres rfl Try.underlying30 (show _ = some cf.size by rw [hcs]; kernel_rfl)) rfl ?_
      have ha := rdAns_yes Hfi.out HD.out HMt.out hend
      rw [Hcf.out] at ha
      exact ha
    | false =>
      have HMt := Lib.hid hm
      rw [hm] at HMy
      clear hm
      go_wp2_with (first
        | (go_at_call 50; (with_reducible refine (HDn.out).mono ?_); rintro r w8 ⟨rfl, hS⟩; have HC8 := Lib.hid (HC.out.same hS); clear hS)
        | (refine wpList_load_cc rfl (.tmp 5) rfl rfl (HCc.out _ HC8.out) hcs ?_)
        | (go_at_call 19; (with_reducible refine (HMy.out _).mono ?_); rintro r w9 ⟨rfl, hB⟩; have HC9 := Lib.hid (HC8.out.keep hB); clear hB)
        | (refine wpList_plain_value (v := .agg zc) rfl (by rw [← Hzc.out]; exact exec_build30e rfl) ?_)
        | (refine wpList_store_rowTo rfl 30 (.tmp 2) (.tmp 118) rfl rfl _ zc rfl rfl 30 zc (HCz.out _ HC9.out) (show _ = some zc.size by rw [hzs]; kernel_rfl) rfl HZo.out ?_))
      obtain ⟨hend, hres⟩ := HC9.out.result zc
      refine bodyPost_ret (v := .tuple #[.agg zc, .int .i64 5]) (results_cell_tmp rfl _ _ w.heap.size 30 _ _ _ _ rfl rfl hres rfl Try.underlying30 (show _ = some zc.size by rw [hzs]; kernel_rfl)) rfl ?_
      have ha := rdAns_no Hfi.out (.inr HMt.out) hend
      rw [Hzc.out] at ha
      exact ha
  · have hdn : (d != 0) = true := by simpa using h0
    have HD0 := Lib.hid (show Form.done b.length s2.2.1 s2.2.2 ≠ 0 from by rw [HD.out]; exact h0)
    clear h0
    go_wp2_with (first
      | (go_at_call 50; (with_reducible refine (HDn.out).mono ?_); rintro r w8 ⟨rfl, hS⟩; have HC8 := Lib.hid (HC.out.same hS); clear hS)
      | (refine wpList_plain_value (v := .agg zc) rfl (by rw [← Hzc.out]; exact exec_build30e rfl) ?_)
      | (refine wpList_store_rowTo rfl 30 (.tmp 2) (.tmp 118) rfl rfl _ zc rfl rfl 30 zc (HCz.out _ HC8.out) (show _ = some zc.size by rw [hzs]; kernel_rfl) rfl HZo.out ?_))
    obtain ⟨hend, hres⟩ := HC8.out.result zc
    refine bodyPost_ret (v := .tuple #[.agg zc, .int .i64 5]) (results_cell_tmp rfl _ _ w.heap.size 30 _ _ _ _ rfl rfl hres rfl Try.underlying30 (show _ = some zc.size by rw [hzs]; kernel_rfl)) rfl ?_
    have ha := rdAns_no Hfi.out (.inl HD0.out) hend
    rw [Hzc.out] at ha
    exact ha

set_option maxRecDepth 100000 in
set_option maxHeartbeats 12800000 in
theorem read21_9_w (v : Value) (b : List UInt8) (w : World) (hb : RdB w v b) (hl : b.length ≤ 1000000) (hkd : (Form.small b 0 0 14).1 = 9) : Calls Try.prog 21 #[v] w (RdAns w b) := by
  obtain ⟨p, c, rfl, hpt⟩ := hb
  have HBv := Lib.hid (show RdB w (.slice p b.length c) b from ⟨p, c, rfl, hpt⟩)
  have HBn := Lib.hid (((HBv.out.keeps ((Keeps.refl w).alloc (.cells zC 30))).keeps ((Keeps.refl _).alloc (.cells #[.slice p b.length c, .int .i64 0, .int .i64 0] 98))).keeps ((Keeps.refl _).alloc (.cells #[.pointer (some ⟨w.heap.size + 1, 0, none⟩)] 70)))
  have Hkd := Lib.hid hkd
  have Hl := Lib.hid hl
  clear hpt hkd
  obtain ⟨zc, hzc⟩ : ∃ zc, zC = zc := ⟨_, rfl⟩
  have hz := hz30
  rw [hzc] at hz
  rw [hzc] at HBn
  have Hzc := Lib.hid hzc
  have hzs : zc.size = 35 := by rw [← hzc]; rfl
  clear hzc
  have HRd := Lib.hid (show Rdr (((w.alloc (.cells zc 30)).alloc (.cells #[.slice p b.length c, .int .i64 0, .int .i64 0] 98)).alloc (.cells #[.pointer (some ⟨w.heap.size + 1, 0, none⟩)] 70)) (w.heap.size + 1) (.slice p b.length c) 0 0 from by
    unfold Rdr
    rw [Below.heap_alloc _ _ _ (by simp)]
    have := heap_alloc_new (w.alloc (.cells zc 30)) (.cells #[.slice p b.length c, .int .i64 0, .int .i64 0] 98)
    rw [heap_alloc_size] at this
    exact this)
  obtain ⟨kc, hkc⟩ : ∃ kc, kC 9 = kc := ⟨_, rfl⟩
  have hks : kc.size = 35 := by rw [← hkc]; rfl
  have HK1 := Lib.hid (show kc.all (·.oneCell') = true by rw [← hkc]; exact cmc_one ..)
  have Hkc := Lib.hid hkc
  clear hkc
  go_enter Try.func21, Try.ntmps21
  go_upto_region 3 with (first
    | (refine wpList_alloc_zero rfl 30 rfl _ hz ?_)
    | (go_at_call 41; (with_reducible refine (new_w p b.length c _).mono ?_); rintro r w1 ⟨rfl, rfl⟩)
    | (go_at_call 42; (with_reducible refine (small_z (w.heap.size + 1) (.slice p b.length c) b 0 0 14 14 rfl _ HRd.out HBn.out (Nat.zero_le _) hl (by decide)).mono ?_); rintro r w2 ⟨n, a0, e0, hs, rfl, hm⟩; have HS := Lib.hid hs; have HM := Lib.hid hm; obtain rfl : n = 9 := (by have h := Hkd.out; rw [hs] at h; exact h); clear hs hm)
    | (refine wpList_plain_value (v := .agg kc) rfl (by rw [← Hkc.out]; exact exec_build30 9 (.tmp 13) rfl rfl) ?_)
    | (refine wpList_store_rowTo rfl 30 (.tmp 5) (.tmp 14) rfl rfl _ kc rfl rfl 30 zc (heap_alloc_new w2 _) (show _ = some kc.size by rw [hks]; kernel_rfl) (by rw [hks, hzs]) HK1.out ?_))
  rw [alloc_setRow]
  have HC0 := Lib.hid (show RC w (w2.alloc (.cells kc 30)) (.slice p b.length c) b (w.heap.size + 1) (w.heap.size + 1 + 1) w2.heap.size (Cm.rd0 b) from by rw [← Hkc.out]; exact RC.begin HBv.out Hl.out (by rw [Hzc.out]; exact HM.out) HS.out)
  obtain ⟨W0, hW0⟩ : ∃ W0, w2.alloc (.cells kc 30) = W0 := ⟨_, rfl⟩
  rw [hW0] at HC0
  rw [hW0]
  obtain ⟨C, hC⟩ : ∃ C, w2.heap.size = C := ⟨_, rfl⟩
  rw [hC] at HC0
  rw [hC]
  obtain ⟨V, hV⟩ : ∃ V, w.heap.size + 1 + 1 = V := ⟨_, rfl⟩
  rw [hV] at HC0
  rw [hV]
  obtain ⟨R, hR⟩ : ∃ R, w.heap.size + 1 = R := ⟨_, rfl⟩
  rw [hR] at HC0
  clear hW0 hC hV hR HRd HBn HBv HM
  have Hfin := Lib.hid (show Cm.rd b = (flds 9).foldl (Cm.rdL b) (Cm.rd0 b) from by unfold Cm.rd; rw [HS.out])
  have Hk0 := Lib.hid (show (Cm.rd0 b).1.cells[0]? = some (.int .u8 9) from by unfold Cm.rd0; rw [HS.out]; rfl)
  obtain ⟨s0, hs0⟩ : ∃ s, Cm.rd0 b = s := ⟨_, rfl⟩
  rw [hs0] at HC0 Hfin Hk0
  clear hs0 HS
  have k0 := (HC0.out.at 0).trans Hk0.out
  have v0 := HC0.out.var
  go_upto_region 47 with (first
    | (go_at_call 58; (with_reducible refine (acct58_w HC0.out).mono ?_); rintro r W1 ⟨rfl, hC⟩; obtain ⟨s1, hq1⟩ : ∃ s, Cm.rdL b s0 97 = s := ⟨_, rfl⟩; rw [hq1] at hC; have HQ1 := Lib.hid hq1; have HC1 := Lib.hid hC; clear hC hq1; have v1 := HC1.out.var)
    | (go_at_call 59; (with_reducible refine (cont59_w HC1.out).mono ?_); rintro r W2 ⟨rfl, hC⟩; obtain ⟨s2, hq2⟩ : ∃ s, Cm.rdL b s1 99 = s := ⟨_, rfl⟩; rw [hq2] at hC; have HQ2 := Lib.hid hq2; have HC2 := Lib.hid hC; clear hC hq2; have v2 := HC2.out.var)
    | (go_at_call 62; (with_reducible refine (rflag_w R _ b s2.2.1 s2.2.2 _ HC2.out.rd HC2.out.bs HC2.out.ha HC2.out.hl HC2.out.offR).mono ?_); rintro r W3 ⟨f3, a3, e3, hs, rfl, hm⟩; have HM3 := Lib.hid (HC2.out.flgs hs hm); have y3 := (HM3.out.at 31).trans (show _ = some (Value.bool s2.1.buy) from rfl); have z3 := HM3.out.thaw 31; have hC := HC2.out.l98 hs hm; clear hs hm; obtain ⟨s3, hq3⟩ : ∃ s, Cm.rdL b s2 98 = s := ⟨_, rfl⟩; rw [hq3] at hC; have HQ3 := Lib.hid hq3; have HC3 := Lib.hid hC; clear hC hq3; have v3 := HC3.out.var)
    | (go_at_call 60; (with_reducible refine (rest60_w HC3.out).mono ?_); rintro r W4 ⟨rfl, hC⟩; obtain ⟨s4, hq4⟩ : ∃ s, Cm.rdL b (Cm.rdL b s3 112) 113 = s := ⟨_, rfl⟩; rw [hq4] at hC; have HQ4 := Lib.hid hq4; have HC4 := Lib.hid hC; clear hC hq4; have v4 := HC4.out.var))
  have hfin : Cm.rd b = s4 := by rw [Hfin.out]; show Cm.rdL b (Cm.rdL b (Cm.rdL b (Cm.rdL b (Cm.rdL b (s0) 97) 99) 98) 112) 113 = _; rw [HQ1.out, HQ2.out, HQ3.out, HQ4.out]
  have Hfi := Lib.hid hfin
  have Hok := Lib.hid HC4.out.ok
  have HC := HC4
  have hv := HC.out.var
  clear hfin v0 v1 v2 v3 v4 k0
  obtain ⟨WL, hWL⟩ : ∃ WL, W4 = WL := ⟨_, rfl⟩
  rw [hWL] at HC hv
  rw [hWL]
  clear hWL
  obtain ⟨cf, hcf⟩ : ∃ cf, s4.1.cells = cf := ⟨_, rfl⟩
  have HCc := Lib.hid (show ∀ W, RC w W (.slice p b.length c) b R V C s4 → CcAt W C cf from fun W h => by rw [← hcf]; exact h.c)
  have hcs : cf.size = 35 := by rw [← hcf]; rfl
  have HCo := Lib.hid (show cf.all (·.oneCell') = true by rw [← hcf]; exact Cm.cells_one _)
  have HZo := Lib.hid (show zc.all (·.oneCell') = true by rw [← Hzc.out]; exact zC_one)
  have HMy := Lib.hid (fun W => (show Calls Try.prog 19 #[.agg cf] W fun e w' => e = .returned (.bool s4.1.mayB) ∧ Below W.heap.size W w' from by rw [← hcf]; exact may19_w s4.1 Hok.out W))
  have Hcf := Lib.hid hcf
  have HCz := Lib.hid (show ∀ W, RC w W (.slice p b.length c) b R V C s4 → W.heap[w.heap.size]? = some (.cells zc 30) from fun W h => by rw [← Hzc.out]; exact h.rz)
  clear hcf
  obtain ⟨d, hd⟩ : ∃ d, Form.done b.length s4.2.1 s4.2.2 = d := ⟨_, rfl⟩
  have HD := Lib.hid hd
  have HDn := Lib.hid (show Calls Try.prog 50 #[.pointer (some ⟨R, 0, none⟩)] WL fun r w' => r = .returned (.int .i64 d) ∧ RegT.Same WL w' from by rw [← hd]; exact done_w R _ b s4.2.1 s4.2.2 WL HC.out.rd HC.out.bs HC.out.ha)
  clear hd
  by_cases h0 : d = 0
  · subst h0
    cases hm : s4.1.mayB with
    | true =>
      have HMt := Lib.hid hm
      rw [hm] at HMy
      clear hm
      go_wp2_with (first
        | (go_at_call 50; (with_reducible refine (HDn.out).mono ?_); rintro r w8 ⟨rfl, hS⟩; have HC8 := Lib.hid (HC.out.same hS); clear hS)
        | (refine wpList_load_cc rfl (.tmp 5) rfl rfl (HCc.out _ HC8.out) hcs ?_)
        | (go_at_call 19; (with_reducible refine (HMy.out _).mono ?_); rintro r w9 ⟨rfl, hB⟩; have HC9 := Lib.hid (HC8.out.keep hB); clear hB)
        | (refine wpList_load_cc rfl (.tmp 5) rfl rfl (HCc.out _ HC9.out) hcs ?_)
        | (refine wpList_store_rowTo rfl 30 (.tmp 2) (.tmp 119) rfl rfl _ cf rfl rfl 30 zc (HCz.out _ HC9.out) (show _ = some cf.size by rw [hcs]; kernel_rfl) (by rw [hcs, hzs]) HCo.out ?_))
      obtain ⟨hend, hres⟩ := HC9.out.result cf
      refine bodyPost_ret (v := .tuple #[.agg cf, .int .i64 0]) (results_cell_tmp rfl _ _ w.heap.size 30 _ _ _ _ rfl rfl hres rfl Try.underlying30 (show _ = some cf.size by rw [hcs]; kernel_rfl)) rfl ?_
      have ha := rdAns_yes Hfi.out HD.out HMt.out hend
      rw [Hcf.out] at ha
      exact ha
    | false =>
      have HMt := Lib.hid hm
      rw [hm] at HMy
      clear hm
      go_wp2_with (first
        | (go_at_call 50; (with_reducible refine (HDn.out).mono ?_); rintro r w8 ⟨rfl, hS⟩; have HC8 := Lib.hid (HC.out.same hS); clear hS)
        | (refine wpList_load_cc rfl (.tmp 5) rfl rfl (HCc.out _ HC8.out) hcs ?_)
        | (go_at_call 19; (with_reducible refine (HMy.out _).mono ?_); rintro r w9 ⟨rfl, hB⟩; have HC9 := Lib.hid (HC8.out.keep hB); clear hB)
        | (refine wpList_plain_value (v := .agg zc) rfl (by rw [← Hzc.out]; exact exec_build30e rfl) ?_)
        | (refine wpList_store_rowTo rfl 30 (.tmp 2) (.tmp 118) rfl rfl _ zc rfl rfl 30 zc (HCz.out _ HC9.out) (show _ = some zc.size by rw [hzs]; kernel_rfl) rfl HZo.out ?_))
      obtain ⟨hend, hres⟩ := HC9.out.result zc
      refine bodyPost_ret (v := .tuple #[.agg zc, .int .i64 5]) (results_cell_tmp rfl _ _ w.heap.size 30 _ _ _ _ rfl rfl hres rfl Try.underlying30 (show _ = some zc.size by rw [hzs]; kernel_rfl)) rfl ?_
      have ha := rdAns_no Hfi.out (.inr HMt.out) hend
      rw [Hzc.out] at ha
      exact ha
  · have hdn : (d != 0) = true := by simpa using h0
    have HD0 := Lib.hid (show Form.done b.length s4.2.1 s4.2.2 ≠ 0 from by rw [HD.out]; exact h0)
    clear h0
    go_wp2_with (first
      | (go_at_call 50; (with_reducible refine (HDn.out).mono ?_); rintro r w8 ⟨rfl, hS⟩; have HC8 := Lib.hid (HC.out.same hS); clear hS)
      | (refine wpList_plain_value (v := .agg zc) rfl (by rw [← Hzc.out]; exact exec_build30e rfl) ?_)
      | (refine wpList_store_rowTo rfl 30 (.tmp 2) (.tmp 118) rfl rfl _ zc rfl rfl 30 zc (HCz.out _ HC8.out) (show _ = some zc.size by rw [hzs]; kernel_rfl) rfl HZo.out ?_))
    obtain ⟨hend, hres⟩ := HC8.out.result zc
    refine bodyPost_ret (v := .tuple #[.agg zc, .int .i64 5]) (results_cell_tmp rfl _ _ w.heap.size 30 _ _ _ _ rfl rfl hres rfl Try.underlying30 (show _ = some zc.size by rw [hzs]; kernel_rfl)) rfl ?_
    have ha := rdAns_no Hfi.out (.inl HD0.out) hend
    rw [Hzc.out] at ha
    exact ha

set_option maxRecDepth 100000 in
set_option maxHeartbeats 12800000 in
theorem read21_10_w (v : Value) (b : List UInt8) (w : World) (hb : RdB w v b) (hl : b.length ≤ 1000000) (hkd : (Form.small b 0 0 14).1 = 10) : Calls Try.prog 21 #[v] w (RdAns w b) := by
  obtain ⟨p, c, rfl, hpt⟩ := hb
  have HBv := Lib.hid (show RdB w (.slice p b.length c) b from ⟨p, c, rfl, hpt⟩)
  have HBn := Lib.hid (((HBv.out.keeps ((Keeps.refl w).alloc (.cells zC 30))).keeps ((Keeps.refl _).alloc (.cells #[.slice p b.length c, .int .i64 0, .int .i64 0] 98))).keeps ((Keeps.refl _).alloc (.cells #[.pointer (some ⟨w.heap.size + 1, 0, none⟩)] 70)))
  have Hkd := Lib.hid hkd
  have Hl := Lib.hid hl
  clear hpt hkd
  obtain ⟨zc, hzc⟩ : ∃ zc, zC = zc := ⟨_, rfl⟩
  have hz := hz30
  rw [hzc] at hz
  rw [hzc] at HBn
  have Hzc := Lib.hid hzc
  have hzs : zc.size = 35 := by rw [← hzc]; rfl
  clear hzc
  have HRd := Lib.hid (show Rdr (((w.alloc (.cells zc 30)).alloc (.cells #[.slice p b.length c, .int .i64 0, .int .i64 0] 98)).alloc (.cells #[.pointer (some ⟨w.heap.size + 1, 0, none⟩)] 70)) (w.heap.size + 1) (.slice p b.length c) 0 0 from by
    unfold Rdr
    rw [Below.heap_alloc _ _ _ (by simp)]
    have := heap_alloc_new (w.alloc (.cells zc 30)) (.cells #[.slice p b.length c, .int .i64 0, .int .i64 0] 98)
    rw [heap_alloc_size] at this
    exact this)
  obtain ⟨kc, hkc⟩ : ∃ kc, kC 10 = kc := ⟨_, rfl⟩
  have hks : kc.size = 35 := by rw [← hkc]; rfl
  have HK1 := Lib.hid (show kc.all (·.oneCell') = true by rw [← hkc]; exact cmc_one ..)
  have Hkc := Lib.hid hkc
  clear hkc
  go_enter Try.func21, Try.ntmps21
  go_upto_region 3 with (first
    | (refine wpList_alloc_zero rfl 30 rfl _ hz ?_)
    | (go_at_call 41; (with_reducible refine (new_w p b.length c _).mono ?_); rintro r w1 ⟨rfl, rfl⟩)
    | (go_at_call 42; (with_reducible refine (small_z (w.heap.size + 1) (.slice p b.length c) b 0 0 14 14 rfl _ HRd.out HBn.out (Nat.zero_le _) hl (by decide)).mono ?_); rintro r w2 ⟨n, a0, e0, hs, rfl, hm⟩; have HS := Lib.hid hs; have HM := Lib.hid hm; obtain rfl : n = 10 := (by have h := Hkd.out; rw [hs] at h; exact h); clear hs hm)
    | (refine wpList_plain_value (v := .agg kc) rfl (by rw [← Hkc.out]; exact exec_build30 10 (.tmp 13) rfl rfl) ?_)
    | (refine wpList_store_rowTo rfl 30 (.tmp 5) (.tmp 14) rfl rfl _ kc rfl rfl 30 zc (heap_alloc_new w2 _) (show _ = some kc.size by rw [hks]; kernel_rfl) (by rw [hks, hzs]) HK1.out ?_))
  rw [alloc_setRow]
  have HC0 := Lib.hid (show RC w (w2.alloc (.cells kc 30)) (.slice p b.length c) b (w.heap.size + 1) (w.heap.size + 1 + 1) w2.heap.size (Cm.rd0 b) from by rw [← Hkc.out]; exact RC.begin HBv.out Hl.out (by rw [Hzc.out]; exact HM.out) HS.out)
  obtain ⟨W0, hW0⟩ : ∃ W0, w2.alloc (.cells kc 30) = W0 := ⟨_, rfl⟩
  rw [hW0] at HC0
  rw [hW0]
  obtain ⟨C, hC⟩ : ∃ C, w2.heap.size = C := ⟨_, rfl⟩
  rw [hC] at HC0
  rw [hC]
  obtain ⟨V, hV⟩ : ∃ V, w.heap.size + 1 + 1 = V := ⟨_, rfl⟩
  rw [hV] at HC0
  rw [hV]
  obtain ⟨R, hR⟩ : ∃ R, w.heap.size + 1 = R := ⟨_, rfl⟩
  rw [hR] at HC0
  clear hW0 hC hV hR HRd HBn HBv HM
  have Hfin := Lib.hid (show Cm.rd b = (flds 10).foldl (Cm.rdL b) (Cm.rd0 b) from by unfold Cm.rd; rw [HS.out])
  have Hk0 := Lib.hid (show (Cm.rd0 b).1.cells[0]? = some (.int .u8 10) from by unfold Cm.rd0; rw [HS.out]; rfl)
  obtain ⟨s0, hs0⟩ : ∃ s, Cm.rd0 b = s := ⟨_, rfl⟩
  rw [hs0] at HC0 Hfin Hk0
  clear hs0 HS
  have k0 := (HC0.out.at 0).trans Hk0.out
  have v0 := HC0.out.var
  go_upto_region 47 with (first
    | (go_at_call 58; (with_reducible refine (acct58_w HC0.out).mono ?_); rintro r W1 ⟨rfl, hC⟩; obtain ⟨s1, hq1⟩ : ∃ s, Cm.rdL b s0 97 = s := ⟨_, rfl⟩; rw [hq1] at hC; have HQ1 := Lib.hid hq1; have HC1 := Lib.hid hC; clear hC hq1; have v1 := HC1.out.var)
    | (go_at_call 62; (with_reducible refine (rflag_w R _ b s1.2.1 s1.2.2 _ HC1.out.rd HC1.out.bs HC1.out.ha HC1.out.hl HC1.out.offR).mono ?_); rintro r W2 ⟨f2, a2, e2, hs, rfl, hm⟩; have HM2 := Lib.hid (HC1.out.flgs hs hm); have y2 := (HM2.out.at 30).trans (show _ = some (Value.bool s1.1.on) from rfl); have z2 := HM2.out.thaw 30; have hC := HC1.out.l111 hs hm; clear hs hm; obtain ⟨s2, hq2⟩ : ∃ s, Cm.rdL b s1 111 = s := ⟨_, rfl⟩; rw [hq2] at hC; have HQ2 := Lib.hid hq2; have HC2 := Lib.hid hC; clear hC hq2; have v2 := HC2.out.var))
  have hfin : Cm.rd b = s2 := by rw [Hfin.out]; show Cm.rdL b (Cm.rdL b (s0) 97) 111 = _; rw [HQ1.out, HQ2.out]
  have Hfi := Lib.hid hfin
  have Hok := Lib.hid HC2.out.ok
  have HC := HC2
  have hv := HC.out.var
  clear hfin v0 v1 v2 k0
  obtain ⟨WL, hWL⟩ : ∃ WL, (W2.setCell ⟨C, 30, none⟩ (.bool f2)) = WL := ⟨_, rfl⟩
  rw [hWL] at HC hv
  rw [hWL]
  clear hWL
  obtain ⟨cf, hcf⟩ : ∃ cf, s2.1.cells = cf := ⟨_, rfl⟩
  have HCc := Lib.hid (show ∀ W, RC w W (.slice p b.length c) b R V C s2 → CcAt W C cf from fun W h => by rw [← hcf]; exact h.c)
  have hcs : cf.size = 35 := by rw [← hcf]; rfl
  have HCo := Lib.hid (show cf.all (·.oneCell') = true by rw [← hcf]; exact Cm.cells_one _)
  have HZo := Lib.hid (show zc.all (·.oneCell') = true by rw [← Hzc.out]; exact zC_one)
  have HMy := Lib.hid (fun W => (show Calls Try.prog 19 #[.agg cf] W fun e w' => e = .returned (.bool s2.1.mayB) ∧ Below W.heap.size W w' from by rw [← hcf]; exact may19_w s2.1 Hok.out W))
  have Hcf := Lib.hid hcf
  have HCz := Lib.hid (show ∀ W, RC w W (.slice p b.length c) b R V C s2 → W.heap[w.heap.size]? = some (.cells zc 30) from fun W h => by rw [← Hzc.out]; exact h.rz)
  clear hcf
  obtain ⟨d, hd⟩ : ∃ d, Form.done b.length s2.2.1 s2.2.2 = d := ⟨_, rfl⟩
  have HD := Lib.hid hd
  have HDn := Lib.hid (show Calls Try.prog 50 #[.pointer (some ⟨R, 0, none⟩)] WL fun r w' => r = .returned (.int .i64 d) ∧ RegT.Same WL w' from by rw [← hd]; exact done_w R _ b s2.2.1 s2.2.2 WL HC.out.rd HC.out.bs HC.out.ha)
  clear hd
  by_cases h0 : d = 0
  · subst h0
    cases hm : s2.1.mayB with
    | true =>
      have HMt := Lib.hid hm
      rw [hm] at HMy
      clear hm
      go_wp2_with (first
        | (go_at_call 50; (with_reducible refine (HDn.out).mono ?_); rintro r w8 ⟨rfl, hS⟩; have HC8 := Lib.hid (HC.out.same hS); clear hS)
        | (refine wpList_load_cc rfl (.tmp 5) rfl rfl (HCc.out _ HC8.out) hcs ?_)
        | (go_at_call 19; (with_reducible refine (HMy.out _).mono ?_); rintro r w9 ⟨rfl, hB⟩; have HC9 := Lib.hid (HC8.out.keep hB); clear hB)
        | (refine wpList_load_cc rfl (.tmp 5) rfl rfl (HCc.out _ HC9.out) hcs ?_)
        | (refine wpList_store_rowTo rfl 30 (.tmp 2) (.tmp 119) rfl rfl _ cf rfl rfl 30 zc (HCz.out _ HC9.out) (show _ = some cf.size by rw [hcs]; kernel_rfl) (by rw [hcs, hzs]) HCo.out ?_))
      obtain ⟨hend, hres⟩ := HC9.out.result cf
      refine bodyPost_ret (v := .tuple #[.agg cf, .int .i64 0]) (results_cell_tmp rfl _ _ w.heap.size 30 _ _ _ _ rfl rfl hres rfl Try.underlying30 (show _ = some cf.size by rw [hcs]; kernel_rfl)) rfl ?_
      have ha := rdAns_yes Hfi.out HD.out HMt.out hend
      rw [Hcf.out] at ha
      exact ha
    | false =>
      have HMt := Lib.hid hm
      rw [hm] at HMy
      clear hm
      go_wp2_with (first
        | (go_at_call 50; (with_reducible refine (HDn.out).mono ?_); rintro r w8 ⟨rfl, hS⟩; have HC8 := Lib.hid (HC.out.same hS); clear hS)
        | (refine wpList_load_cc rfl (.tmp 5) rfl rfl (HCc.out _ HC8.out) hcs ?_)
        | (go_at_call 19; (with_reducible refine (HMy.out _).mono ?_); rintro r w9 ⟨rfl, hB⟩; have HC9 := Lib.hid (HC8.out.keep hB); clear hB)
        | (refine wpList_plain_value (v := .agg zc) rfl (by rw [← Hzc.out]; exact exec_build30e rfl) ?_)
        | (refine wpList_store_rowTo rfl 30 (.tmp 2) (.tmp 118) rfl rfl _ zc rfl rfl 30 zc (HCz.out _ HC9.out) (show _ = some zc.size by rw [hzs]; kernel_rfl) rfl HZo.out ?_))
      obtain ⟨hend, hres⟩ := HC9.out.result zc
      refine bodyPost_ret (v := .tuple #[.agg zc, .int .i64 5]) (results_cell_tmp rfl _ _ w.heap.size 30 _ _ _ _ rfl rfl hres rfl Try.underlying30 (show _ = some zc.size by rw [hzs]; kernel_rfl)) rfl ?_
      have ha := rdAns_no Hfi.out (.inr HMt.out) hend
      rw [Hzc.out] at ha
      exact ha
  · have hdn : (d != 0) = true := by simpa using h0
    have HD0 := Lib.hid (show Form.done b.length s2.2.1 s2.2.2 ≠ 0 from by rw [HD.out]; exact h0)
    clear h0
    go_wp2_with (first
      | (go_at_call 50; (with_reducible refine (HDn.out).mono ?_); rintro r w8 ⟨rfl, hS⟩; have HC8 := Lib.hid (HC.out.same hS); clear hS)
      | (refine wpList_plain_value (v := .agg zc) rfl (by rw [← Hzc.out]; exact exec_build30e rfl) ?_)
      | (refine wpList_store_rowTo rfl 30 (.tmp 2) (.tmp 118) rfl rfl _ zc rfl rfl 30 zc (HCz.out _ HC8.out) (show _ = some zc.size by rw [hzs]; kernel_rfl) rfl HZo.out ?_))
    obtain ⟨hend, hres⟩ := HC8.out.result zc
    refine bodyPost_ret (v := .tuple #[.agg zc, .int .i64 5]) (results_cell_tmp rfl _ _ w.heap.size 30 _ _ _ _ rfl rfl hres rfl Try.underlying30 (show _ = some zc.size by rw [hzs]; kernel_rfl)) rfl ?_
    have ha := rdAns_no Hfi.out (.inl HD0.out) hend
    rw [Hzc.out] at ha
    exact ha

set_option maxRecDepth 100000 in
set_option maxHeartbeats 12800000 in
theorem read21_11_w (v : Value) (b : List UInt8) (w : World) (hb : RdB w v b) (hl : b.length ≤ 1000000) (hkd : (Form.small b 0 0 14).1 = 11) : Calls Try.prog 21 #[v] w (RdAns w b) := by
  obtain ⟨p, c, rfl, hpt⟩ := hb
  have HBv := Lib.hid (show RdB w (.slice p b.length c) b from ⟨p, c, rfl, hpt⟩)
  have HBn := Lib.hid (((HBv.out.keeps ((Keeps.refl w).alloc (.cells zC 30))).keeps ((Keeps.refl _).alloc (.cells #[.slice p b.length c, .int .i64 0, .int .i64 0] 98))).keeps ((Keeps.refl _).alloc (.cells #[.pointer (some ⟨w.heap.size + 1, 0, none⟩)] 70)))
  have Hkd := Lib.hid hkd
  have Hl := Lib.hid hl
  clear hpt hkd
  obtain ⟨zc, hzc⟩ : ∃ zc, zC = zc := ⟨_, rfl⟩
  have hz := hz30
  rw [hzc] at hz
  rw [hzc] at HBn
  have Hzc := Lib.hid hzc
  have hzs : zc.size = 35 := by rw [← hzc]; rfl
  clear hzc
  have HRd := Lib.hid (show Rdr (((w.alloc (.cells zc 30)).alloc (.cells #[.slice p b.length c, .int .i64 0, .int .i64 0] 98)).alloc (.cells #[.pointer (some ⟨w.heap.size + 1, 0, none⟩)] 70)) (w.heap.size + 1) (.slice p b.length c) 0 0 from by
    unfold Rdr
    rw [Below.heap_alloc _ _ _ (by simp)]
    have := heap_alloc_new (w.alloc (.cells zc 30)) (.cells #[.slice p b.length c, .int .i64 0, .int .i64 0] 98)
    rw [heap_alloc_size] at this
    exact this)
  obtain ⟨kc, hkc⟩ : ∃ kc, kC 11 = kc := ⟨_, rfl⟩
  have hks : kc.size = 35 := by rw [← hkc]; rfl
  have HK1 := Lib.hid (show kc.all (·.oneCell') = true by rw [← hkc]; exact cmc_one ..)
  have Hkc := Lib.hid hkc
  clear hkc
  go_enter Try.func21, Try.ntmps21
  go_upto_region 3 with (first
    | (refine wpList_alloc_zero rfl 30 rfl _ hz ?_)
    | (go_at_call 41; (with_reducible refine (new_w p b.length c _).mono ?_); rintro r w1 ⟨rfl, rfl⟩)
    | (go_at_call 42; (with_reducible refine (small_z (w.heap.size + 1) (.slice p b.length c) b 0 0 14 14 rfl _ HRd.out HBn.out (Nat.zero_le _) hl (by decide)).mono ?_); rintro r w2 ⟨n, a0, e0, hs, rfl, hm⟩; have HS := Lib.hid hs; have HM := Lib.hid hm; obtain rfl : n = 11 := (by have h := Hkd.out; rw [hs] at h; exact h); clear hs hm)
    | (refine wpList_plain_value (v := .agg kc) rfl (by rw [← Hkc.out]; exact exec_build30 11 (.tmp 13) rfl rfl) ?_)
    | (refine wpList_store_rowTo rfl 30 (.tmp 5) (.tmp 14) rfl rfl _ kc rfl rfl 30 zc (heap_alloc_new w2 _) (show _ = some kc.size by rw [hks]; kernel_rfl) (by rw [hks, hzs]) HK1.out ?_))
  rw [alloc_setRow]
  have HC0 := Lib.hid (show RC w (w2.alloc (.cells kc 30)) (.slice p b.length c) b (w.heap.size + 1) (w.heap.size + 1 + 1) w2.heap.size (Cm.rd0 b) from by rw [← Hkc.out]; exact RC.begin HBv.out Hl.out (by rw [Hzc.out]; exact HM.out) HS.out)
  obtain ⟨W0, hW0⟩ : ∃ W0, w2.alloc (.cells kc 30) = W0 := ⟨_, rfl⟩
  rw [hW0] at HC0
  rw [hW0]
  obtain ⟨C, hC⟩ : ∃ C, w2.heap.size = C := ⟨_, rfl⟩
  rw [hC] at HC0
  rw [hC]
  obtain ⟨V, hV⟩ : ∃ V, w.heap.size + 1 + 1 = V := ⟨_, rfl⟩
  rw [hV] at HC0
  rw [hV]
  obtain ⟨R, hR⟩ : ∃ R, w.heap.size + 1 = R := ⟨_, rfl⟩
  rw [hR] at HC0
  clear hW0 hC hV hR HRd HBn HBv HM
  have Hfin := Lib.hid (show Cm.rd b = (flds 11).foldl (Cm.rdL b) (Cm.rd0 b) from by unfold Cm.rd; rw [HS.out])
  have Hk0 := Lib.hid (show (Cm.rd0 b).1.cells[0]? = some (.int .u8 11) from by unfold Cm.rd0; rw [HS.out]; rfl)
  obtain ⟨s0, hs0⟩ : ∃ s, Cm.rd0 b = s := ⟨_, rfl⟩
  rw [hs0] at HC0 Hfin Hk0
  clear hs0 HS
  have k0 := (HC0.out.at 0).trans Hk0.out
  have v0 := HC0.out.var
  go_upto_region 47 with (first
    | (go_at_call 59; (with_reducible refine (cont59_w HC0.out).mono ?_); rintro r W1 ⟨rfl, hC⟩; obtain ⟨s1, hq1⟩ : ∃ s, Cm.rdL b s0 99 = s := ⟨_, rfl⟩; rw [hq1] at hC; have HQ1 := Lib.hid hq1; have HC1 := Lib.hid hC; clear hC hq1; have v1 := HC1.out.var)
    | (go_at_call 44; (with_reducible refine (rint_w R _ b s1.2.1 s1.2.2 _ HC1.out.rd HC1.out.bs HC1.out.ha HC1.out.hl).mono ?_); rintro r W2 ⟨n2, a2, e2, hs, rfl, hm⟩; have HM2 := Lib.hid (HC1.out.nums hs hm); have y2 := (HM2.out.at 33).trans (show _ = some (Value.int .i64 s1.1.price) from rfl); have z2 := HM2.out.thaw 33; have hC := HC1.out.l112 hs hm; clear hs hm; obtain ⟨s2, hq2⟩ : ∃ s, Cm.rdL b s1 112 = s := ⟨_, rfl⟩; rw [hq2] at hC; have HQ2 := Lib.hid hq2; have HC2 := Lib.hid hC; clear hC hq2; have v2 := HC2.out.var))
  have hfin : Cm.rd b = s2 := by rw [Hfin.out]; show Cm.rdL b (Cm.rdL b (s0) 99) 112 = _; rw [HQ1.out, HQ2.out]
  have Hfi := Lib.hid hfin
  have Hok := Lib.hid HC2.out.ok
  have HC := HC2
  have hv := HC.out.var
  clear hfin v0 v1 v2 k0
  obtain ⟨WL, hWL⟩ : ∃ WL, (W2.setCell ⟨C, 33, none⟩ (.int .i64 (Form.unfold_ n2))) = WL := ⟨_, rfl⟩
  rw [hWL] at HC hv
  rw [hWL]
  clear hWL
  obtain ⟨cf, hcf⟩ : ∃ cf, s2.1.cells = cf := ⟨_, rfl⟩
  have HCc := Lib.hid (show ∀ W, RC w W (.slice p b.length c) b R V C s2 → CcAt W C cf from fun W h => by rw [← hcf]; exact h.c)
  have hcs : cf.size = 35 := by rw [← hcf]; rfl
  have HCo := Lib.hid (show cf.all (·.oneCell') = true by rw [← hcf]; exact Cm.cells_one _)
  have HZo := Lib.hid (show zc.all (·.oneCell') = true by rw [← Hzc.out]; exact zC_one)
  have HMy := Lib.hid (fun W => (show Calls Try.prog 19 #[.agg cf] W fun e w' => e = .returned (.bool s2.1.mayB) ∧ Below W.heap.size W w' from by rw [← hcf]; exact may19_w s2.1 Hok.out W))
  have Hcf := Lib.hid hcf
  have HCz := Lib.hid (show ∀ W, RC w W (.slice p b.length c) b R V C s2 → W.heap[w.heap.size]? = some (.cells zc 30) from fun W h => by rw [← Hzc.out]; exact h.rz)
  clear hcf
  obtain ⟨d, hd⟩ : ∃ d, Form.done b.length s2.2.1 s2.2.2 = d := ⟨_, rfl⟩
  have HD := Lib.hid hd
  have HDn := Lib.hid (show Calls Try.prog 50 #[.pointer (some ⟨R, 0, none⟩)] WL fun r w' => r = .returned (.int .i64 d) ∧ RegT.Same WL w' from by rw [← hd]; exact done_w R _ b s2.2.1 s2.2.2 WL HC.out.rd HC.out.bs HC.out.ha)
  clear hd
  by_cases h0 : d = 0
  · subst h0
    cases hm : s2.1.mayB with
    | true =>
      have HMt := Lib.hid hm
      rw [hm] at HMy
      clear hm
      go_wp2_with (first
        | (go_at_call 50; (with_reducible refine (HDn.out).mono ?_); rintro r w8 ⟨rfl, hS⟩; have HC8 := Lib.hid (HC.out.same hS); clear hS)
        | (refine wpList_load_cc rfl (.tmp 5) rfl rfl (HCc.out _ HC8.out) hcs ?_)
        | (go_at_call 19; (with_reducible refine (HMy.out _).mono ?_); rintro r w9 ⟨rfl, hB⟩; have HC9 := Lib.hid (HC8.out.keep hB); clear hB)
        | (refine wpList_load_cc rfl (.tmp 5) rfl rfl (HCc.out _ HC9.out) hcs ?_)
        | (refine wpList_store_rowTo rfl 30 (.tmp 2) (.tmp 119) rfl rfl _ cf rfl rfl 30 zc (HCz.out _ HC9.out) (show _ = some cf.size by rw [hcs]; kernel_rfl) (by rw [hcs, hzs]) HCo.out ?_))
      obtain ⟨hend, hres⟩ := HC9.out.result cf
      refine bodyPost_ret (v := .tuple #[.agg cf, .int .i64 0]) (results_cell_tmp rfl _ _ w.heap.size 30 _ _ _ _ rfl rfl hres rfl Try.underlying30 (show _ = some cf.size by rw [hcs]; kernel_rfl)) rfl ?_
      have ha := rdAns_yes Hfi.out HD.out HMt.out hend
      rw [Hcf.out] at ha
      exact ha
    | false =>
      have HMt := Lib.hid hm
      rw [hm] at HMy
      clear hm
      go_wp2_with (first
        | (go_at_call 50; (with_reducible refine (HDn.out).mono ?_); rintro r w8 ⟨rfl, hS⟩; have HC8 := Lib.hid (HC.out.same hS); clear hS)
        | (refine wpList_load_cc rfl (.tmp 5) rfl rfl (HCc.out _ HC8.out) hcs ?_)
        | (go_at_call 19; (with_reducible refine (HMy.out _).mono ?_); rintro r w9 ⟨rfl, hB⟩; have HC9 := Lib.hid (HC8.out.keep hB); clear hB)
        | (refine wpList_plain_value (v := .agg zc) rfl (by rw [← Hzc.out]; exact exec_build30e rfl) ?_)
        | (refine wpList_store_rowTo rfl 30 (.tmp 2) (.tmp 118) rfl rfl _ zc rfl rfl 30 zc (HCz.out _ HC9.out) (show _ = some zc.size by rw [hzs]; kernel_rfl) rfl HZo.out ?_))
      obtain ⟨hend, hres⟩ := HC9.out.result zc
      refine bodyPost_ret (v := .tuple #[.agg zc, .int .i64 5]) (results_cell_tmp rfl _ _ w.heap.size 30 _ _ _ _ rfl rfl hres rfl Try.underlying30 (show _ = some zc.size by rw [hzs]; kernel_rfl)) rfl ?_
      have ha := rdAns_no Hfi.out (.inr HMt.out) hend
      rw [Hzc.out] at ha
      exact ha
  · have hdn : (d != 0) = true := by simpa using h0
    have HD0 := Lib.hid (show Form.done b.length s2.2.1 s2.2.2 ≠ 0 from by rw [HD.out]; exact h0)
    clear h0
    go_wp2_with (first
      | (go_at_call 50; (with_reducible refine (HDn.out).mono ?_); rintro r w8 ⟨rfl, hS⟩; have HC8 := Lib.hid (HC.out.same hS); clear hS)
      | (refine wpList_plain_value (v := .agg zc) rfl (by rw [← Hzc.out]; exact exec_build30e rfl) ?_)
      | (refine wpList_store_rowTo rfl 30 (.tmp 2) (.tmp 118) rfl rfl _ zc rfl rfl 30 zc (HCz.out _ HC8.out) (show _ = some zc.size by rw [hzs]; kernel_rfl) rfl HZo.out ?_))
    obtain ⟨hend, hres⟩ := HC8.out.result zc
    refine bodyPost_ret (v := .tuple #[.agg zc, .int .i64 5]) (results_cell_tmp rfl _ _ w.heap.size 30 _ _ _ _ rfl rfl hres rfl Try.underlying30 (show _ = some zc.size by rw [hzs]; kernel_rfl)) rfl ?_
    have ha := rdAns_no Hfi.out (.inl HD0.out) hend
    rw [Hzc.out] at ha
    exact ha

set_option maxRecDepth 100000 in
set_option maxHeartbeats 12800000 in
theorem read21_12_w (v : Value) (b : List UInt8) (w : World) (hb : RdB w v b) (hl : b.length ≤ 1000000) (hkd : (Form.small b 0 0 14).1 = 12) : Calls Try.prog 21 #[v] w (RdAns w b) := by
  obtain ⟨p, c, rfl, hpt⟩ := hb
  have HBv := Lib.hid (show RdB w (.slice p b.length c) b from ⟨p, c, rfl, hpt⟩)
  have HBn := Lib.hid (((HBv.out.keeps ((Keeps.refl w).alloc (.cells zC 30))).keeps ((Keeps.refl _).alloc (.cells #[.slice p b.length c, .int .i64 0, .int .i64 0] 98))).keeps ((Keeps.refl _).alloc (.cells #[.pointer (some ⟨w.heap.size + 1, 0, none⟩)] 70)))
  have Hkd := Lib.hid hkd
  have Hl := Lib.hid hl
  clear hpt hkd
  obtain ⟨zc, hzc⟩ : ∃ zc, zC = zc := ⟨_, rfl⟩
  have hz := hz30
  rw [hzc] at hz
  rw [hzc] at HBn
  have Hzc := Lib.hid hzc
  have hzs : zc.size = 35 := by rw [← hzc]; rfl
  clear hzc
  have HRd := Lib.hid (show Rdr (((w.alloc (.cells zc 30)).alloc (.cells #[.slice p b.length c, .int .i64 0, .int .i64 0] 98)).alloc (.cells #[.pointer (some ⟨w.heap.size + 1, 0, none⟩)] 70)) (w.heap.size + 1) (.slice p b.length c) 0 0 from by
    unfold Rdr
    rw [Below.heap_alloc _ _ _ (by simp)]
    have := heap_alloc_new (w.alloc (.cells zc 30)) (.cells #[.slice p b.length c, .int .i64 0, .int .i64 0] 98)
    rw [heap_alloc_size] at this
    exact this)
  obtain ⟨kc, hkc⟩ : ∃ kc, kC 12 = kc := ⟨_, rfl⟩
  have hks : kc.size = 35 := by rw [← hkc]; rfl
  have HK1 := Lib.hid (show kc.all (·.oneCell') = true by rw [← hkc]; exact cmc_one ..)
  have Hkc := Lib.hid hkc
  clear hkc
  go_enter Try.func21, Try.ntmps21
  go_upto_region 3 with (first
    | (refine wpList_alloc_zero rfl 30 rfl _ hz ?_)
    | (go_at_call 41; (with_reducible refine (new_w p b.length c _).mono ?_); rintro r w1 ⟨rfl, rfl⟩)
    | (go_at_call 42; (with_reducible refine (small_z (w.heap.size + 1) (.slice p b.length c) b 0 0 14 14 rfl _ HRd.out HBn.out (Nat.zero_le _) hl (by decide)).mono ?_); rintro r w2 ⟨n, a0, e0, hs, rfl, hm⟩; have HS := Lib.hid hs; have HM := Lib.hid hm; obtain rfl : n = 12 := (by have h := Hkd.out; rw [hs] at h; exact h); clear hs hm)
    | (refine wpList_plain_value (v := .agg kc) rfl (by rw [← Hkc.out]; exact exec_build30 12 (.tmp 13) rfl rfl) ?_)
    | (refine wpList_store_rowTo rfl 30 (.tmp 5) (.tmp 14) rfl rfl _ kc rfl rfl 30 zc (heap_alloc_new w2 _) (show _ = some kc.size by rw [hks]; kernel_rfl) (by rw [hks, hzs]) HK1.out ?_))
  rw [alloc_setRow]
  have HC0 := Lib.hid (show RC w (w2.alloc (.cells kc 30)) (.slice p b.length c) b (w.heap.size + 1) (w.heap.size + 1 + 1) w2.heap.size (Cm.rd0 b) from by rw [← Hkc.out]; exact RC.begin HBv.out Hl.out (by rw [Hzc.out]; exact HM.out) HS.out)
  obtain ⟨W0, hW0⟩ : ∃ W0, w2.alloc (.cells kc 30) = W0 := ⟨_, rfl⟩
  rw [hW0] at HC0
  rw [hW0]
  obtain ⟨C, hC⟩ : ∃ C, w2.heap.size = C := ⟨_, rfl⟩
  rw [hC] at HC0
  rw [hC]
  obtain ⟨V, hV⟩ : ∃ V, w.heap.size + 1 + 1 = V := ⟨_, rfl⟩
  rw [hV] at HC0
  rw [hV]
  obtain ⟨R, hR⟩ : ∃ R, w.heap.size + 1 = R := ⟨_, rfl⟩
  rw [hR] at HC0
  clear hW0 hC hV hR HRd HBn HBv HM
  have Hfin := Lib.hid (show Cm.rd b = (flds 12).foldl (Cm.rdL b) (Cm.rd0 b) from by unfold Cm.rd; rw [HS.out])
  have Hk0 := Lib.hid (show (Cm.rd0 b).1.cells[0]? = some (.int .u8 12) from by unfold Cm.rd0; rw [HS.out]; rfl)
  obtain ⟨s0, hs0⟩ : ∃ s, Cm.rd0 b = s := ⟨_, rfl⟩
  rw [hs0] at HC0 Hfin Hk0
  clear hs0 HS
  have k0 := (HC0.out.at 0).trans Hk0.out
  have v0 := HC0.out.var
  go_upto_region 47 with (fail)
  have hfin : Cm.rd b = s0 := by rw [Hfin.out]; rfl
  have Hfi := Lib.hid hfin
  have Hok := Lib.hid HC0.out.ok
  have HC := HC0
  have hv := HC.out.var
  clear hfin v0 k0
  obtain ⟨WL, hWL⟩ : ∃ WL, W0 = WL := ⟨_, rfl⟩
  rw [hWL] at HC hv
  rw [hWL]
  clear hWL
  obtain ⟨cf, hcf⟩ : ∃ cf, s0.1.cells = cf := ⟨_, rfl⟩
  have HCc := Lib.hid (show ∀ W, RC w W (.slice p b.length c) b R V C s0 → CcAt W C cf from fun W h => by rw [← hcf]; exact h.c)
  have hcs : cf.size = 35 := by rw [← hcf]; rfl
  have HCo := Lib.hid (show cf.all (·.oneCell') = true by rw [← hcf]; exact Cm.cells_one _)
  have HZo := Lib.hid (show zc.all (·.oneCell') = true by rw [← Hzc.out]; exact zC_one)
  have HMy := Lib.hid (fun W => (show Calls Try.prog 19 #[.agg cf] W fun e w' => e = .returned (.bool s0.1.mayB) ∧ Below W.heap.size W w' from by rw [← hcf]; exact may19_w s0.1 Hok.out W))
  have Hcf := Lib.hid hcf
  have HCz := Lib.hid (show ∀ W, RC w W (.slice p b.length c) b R V C s0 → W.heap[w.heap.size]? = some (.cells zc 30) from fun W h => by rw [← Hzc.out]; exact h.rz)
  clear hcf
  obtain ⟨d, hd⟩ : ∃ d, Form.done b.length s0.2.1 s0.2.2 = d := ⟨_, rfl⟩
  have HD := Lib.hid hd
  have HDn := Lib.hid (show Calls Try.prog 50 #[.pointer (some ⟨R, 0, none⟩)] WL fun r w' => r = .returned (.int .i64 d) ∧ RegT.Same WL w' from by rw [← hd]; exact done_w R _ b s0.2.1 s0.2.2 WL HC.out.rd HC.out.bs HC.out.ha)
  clear hd
  by_cases h0 : d = 0
  · subst h0
    cases hm : s0.1.mayB with
    | true =>
      have HMt := Lib.hid hm
      rw [hm] at HMy
      clear hm
      go_wp2_with (first
        | (go_at_call 50; (with_reducible refine (HDn.out).mono ?_); rintro r w8 ⟨rfl, hS⟩; have HC8 := Lib.hid (HC.out.same hS); clear hS)
        | (refine wpList_load_cc rfl (.tmp 5) rfl rfl (HCc.out _ HC8.out) hcs ?_)
        | (go_at_call 19; (with_reducible refine (HMy.out _).mono ?_); rintro r w9 ⟨rfl, hB⟩; have HC9 := Lib.hid (HC8.out.keep hB); clear hB)
        | (refine wpList_load_cc rfl (.tmp 5) rfl rfl (HCc.out _ HC9.out) hcs ?_)
        | (refine wpList_store_rowTo rfl 30 (.tmp 2) (.tmp 119) rfl rfl _ cf rfl rfl 30 zc (HCz.out _ HC9.out) (show _ = some cf.size by rw [hcs]; kernel_rfl) (by rw [hcs, hzs]) HCo.out ?_))
      obtain ⟨hend, hres⟩ := HC9.out.result cf
      refine bodyPost_ret (v := .tuple #[.agg cf, .int .i64 0]) (results_cell_tmp rfl _ _ w.heap.size 30 _ _ _ _ rfl rfl hres rfl Try.underlying30 (show _ = some cf.size by rw [hcs]; kernel_rfl)) rfl ?_
      have ha := rdAns_yes Hfi.out HD.out HMt.out hend
      rw [Hcf.out] at ha
      exact ha
    | false =>
      have HMt := Lib.hid hm
      rw [hm] at HMy
      clear hm
      go_wp2_with (first
        | (go_at_call 50; (with_reducible refine (HDn.out).mono ?_); rintro r w8 ⟨rfl, hS⟩; have HC8 := Lib.hid (HC.out.same hS); clear hS)
        | (refine wpList_load_cc rfl (.tmp 5) rfl rfl (HCc.out _ HC8.out) hcs ?_)
        | (go_at_call 19; (with_reducible refine (HMy.out _).mono ?_); rintro r w9 ⟨rfl, hB⟩; have HC9 := Lib.hid (HC8.out.keep hB); clear hB)
        | (refine wpList_plain_value (v := .agg zc) rfl (by rw [← Hzc.out]; exact exec_build30e rfl) ?_)
        | (refine wpList_store_rowTo rfl 30 (.tmp 2) (.tmp 118) rfl rfl _ zc rfl rfl 30 zc (HCz.out _ HC9.out) (show _ = some zc.size by rw [hzs]; kernel_rfl) rfl HZo.out ?_))
      obtain ⟨hend, hres⟩ := HC9.out.result zc
      refine bodyPost_ret (v := .tuple #[.agg zc, .int .i64 5]) (results_cell_tmp rfl _ _ w.heap.size 30 _ _ _ _ rfl rfl hres rfl Try.underlying30 (show _ = some zc.size by rw [hzs]; kernel_rfl)) rfl ?_
      have ha := rdAns_no Hfi.out (.inr HMt.out) hend
      rw [Hzc.out] at ha
      exact ha
  · have hdn : (d != 0) = true := by simpa using h0
    have HD0 := Lib.hid (show Form.done b.length s0.2.1 s0.2.2 ≠ 0 from by rw [HD.out]; exact h0)
    clear h0
    go_wp2_with (first
      | (go_at_call 50; (with_reducible refine (HDn.out).mono ?_); rintro r w8 ⟨rfl, hS⟩; have HC8 := Lib.hid (HC.out.same hS); clear hS)
      | (refine wpList_plain_value (v := .agg zc) rfl (by rw [← Hzc.out]; exact exec_build30e rfl) ?_)
      | (refine wpList_store_rowTo rfl 30 (.tmp 2) (.tmp 118) rfl rfl _ zc rfl rfl 30 zc (HCz.out _ HC8.out) (show _ = some zc.size by rw [hzs]; kernel_rfl) rfl HZo.out ?_))
    obtain ⟨hend, hres⟩ := HC8.out.result zc
    refine bodyPost_ret (v := .tuple #[.agg zc, .int .i64 5]) (results_cell_tmp rfl _ _ w.heap.size 30 _ _ _ _ rfl rfl hres rfl Try.underlying30 (show _ = some zc.size by rw [hzs]; kernel_rfl)) rfl ?_
    have ha := rdAns_no Hfi.out (.inl HD0.out) hend
    rw [Hzc.out] at ha
    exact ha

set_option maxRecDepth 100000 in
set_option maxHeartbeats 12800000 in
theorem read21_13_w (v : Value) (b : List UInt8) (w : World) (hb : RdB w v b) (hl : b.length ≤ 1000000) (hkd : (Form.small b 0 0 14).1 = 13) : Calls Try.prog 21 #[v] w (RdAns w b) := by
  obtain ⟨p, c, rfl, hpt⟩ := hb
  have HBv := Lib.hid (show RdB w (.slice p b.length c) b from ⟨p, c, rfl, hpt⟩)
  have HBn := Lib.hid (((HBv.out.keeps ((Keeps.refl w).alloc (.cells zC 30))).keeps ((Keeps.refl _).alloc (.cells #[.slice p b.length c, .int .i64 0, .int .i64 0] 98))).keeps ((Keeps.refl _).alloc (.cells #[.pointer (some ⟨w.heap.size + 1, 0, none⟩)] 70)))
  have Hkd := Lib.hid hkd
  have Hl := Lib.hid hl
  clear hpt hkd
  obtain ⟨zc, hzc⟩ : ∃ zc, zC = zc := ⟨_, rfl⟩
  have hz := hz30
  rw [hzc] at hz
  rw [hzc] at HBn
  have Hzc := Lib.hid hzc
  have hzs : zc.size = 35 := by rw [← hzc]; rfl
  clear hzc
  have HRd := Lib.hid (show Rdr (((w.alloc (.cells zc 30)).alloc (.cells #[.slice p b.length c, .int .i64 0, .int .i64 0] 98)).alloc (.cells #[.pointer (some ⟨w.heap.size + 1, 0, none⟩)] 70)) (w.heap.size + 1) (.slice p b.length c) 0 0 from by
    unfold Rdr
    rw [Below.heap_alloc _ _ _ (by simp)]
    have := heap_alloc_new (w.alloc (.cells zc 30)) (.cells #[.slice p b.length c, .int .i64 0, .int .i64 0] 98)
    rw [heap_alloc_size] at this
    exact this)
  obtain ⟨kc, hkc⟩ : ∃ kc, kC 13 = kc := ⟨_, rfl⟩
  have hks : kc.size = 35 := by rw [← hkc]; rfl
  have HK1 := Lib.hid (show kc.all (·.oneCell') = true by rw [← hkc]; exact cmc_one ..)
  have Hkc := Lib.hid hkc
  clear hkc
  go_enter Try.func21, Try.ntmps21
  go_upto_region 3 with (first
    | (refine wpList_alloc_zero rfl 30 rfl _ hz ?_)
    | (go_at_call 41; (with_reducible refine (new_w p b.length c _).mono ?_); rintro r w1 ⟨rfl, rfl⟩)
    | (go_at_call 42; (with_reducible refine (small_z (w.heap.size + 1) (.slice p b.length c) b 0 0 14 14 rfl _ HRd.out HBn.out (Nat.zero_le _) hl (by decide)).mono ?_); rintro r w2 ⟨n, a0, e0, hs, rfl, hm⟩; have HS := Lib.hid hs; have HM := Lib.hid hm; obtain rfl : n = 13 := (by have h := Hkd.out; rw [hs] at h; exact h); clear hs hm)
    | (refine wpList_plain_value (v := .agg kc) rfl (by rw [← Hkc.out]; exact exec_build30 13 (.tmp 13) rfl rfl) ?_)
    | (refine wpList_store_rowTo rfl 30 (.tmp 5) (.tmp 14) rfl rfl _ kc rfl rfl 30 zc (heap_alloc_new w2 _) (show _ = some kc.size by rw [hks]; kernel_rfl) (by rw [hks, hzs]) HK1.out ?_))
  rw [alloc_setRow]
  have HC0 := Lib.hid (show RC w (w2.alloc (.cells kc 30)) (.slice p b.length c) b (w.heap.size + 1) (w.heap.size + 1 + 1) w2.heap.size (Cm.rd0 b) from by rw [← Hkc.out]; exact RC.begin HBv.out Hl.out (by rw [Hzc.out]; exact HM.out) HS.out)
  obtain ⟨W0, hW0⟩ : ∃ W0, w2.alloc (.cells kc 30) = W0 := ⟨_, rfl⟩
  rw [hW0] at HC0
  rw [hW0]
  obtain ⟨C, hC⟩ : ∃ C, w2.heap.size = C := ⟨_, rfl⟩
  rw [hC] at HC0
  rw [hC]
  obtain ⟨V, hV⟩ : ∃ V, w.heap.size + 1 + 1 = V := ⟨_, rfl⟩
  rw [hV] at HC0
  rw [hV]
  obtain ⟨R, hR⟩ : ∃ R, w.heap.size + 1 = R := ⟨_, rfl⟩
  rw [hR] at HC0
  clear hW0 hC hV hR HRd HBn HBv HM
  have Hfin := Lib.hid (show Cm.rd b = (flds 13).foldl (Cm.rdL b) (Cm.rd0 b) from by unfold Cm.rd; rw [HS.out])
  have Hk0 := Lib.hid (show (Cm.rd0 b).1.cells[0]? = some (.int .u8 13) from by unfold Cm.rd0; rw [HS.out]; rfl)
  obtain ⟨s0, hs0⟩ : ∃ s, Cm.rd0 b = s := ⟨_, rfl⟩
  rw [hs0] at HC0 Hfin Hk0
  clear hs0 HS
  have k0 := (HC0.out.at 0).trans Hk0.out
  have v0 := HC0.out.var
  go_upto_region 47 with (first
    | (go_at_call 58; (with_reducible refine (acct58_w HC0.out).mono ?_); rintro r W1 ⟨rfl, hC⟩; obtain ⟨s1, hq1⟩ : ∃ s, Cm.rdL b s0 97 = s := ⟨_, rfl⟩; rw [hq1] at hC; have HQ1 := Lib.hid hq1; have HC1 := Lib.hid hC; clear hC hq1; have v1 := HC1.out.var))
  have hfin : Cm.rd b = s1 := by rw [Hfin.out]; show Cm.rdL b (s0) 97 = _; rw [HQ1.out]
  have Hfi := Lib.hid hfin
  have Hok := Lib.hid HC1.out.ok
  have HC := HC1
  have hv := HC.out.var
  clear hfin v0 v1 k0
  obtain ⟨WL, hWL⟩ : ∃ WL, W1 = WL := ⟨_, rfl⟩
  rw [hWL] at HC hv
  rw [hWL]
  clear hWL
  obtain ⟨cf, hcf⟩ : ∃ cf, s1.1.cells = cf := ⟨_, rfl⟩
  have HCc := Lib.hid (show ∀ W, RC w W (.slice p b.length c) b R V C s1 → CcAt W C cf from fun W h => by rw [← hcf]; exact h.c)
  have hcs : cf.size = 35 := by rw [← hcf]; rfl
  have HCo := Lib.hid (show cf.all (·.oneCell') = true by rw [← hcf]; exact Cm.cells_one _)
  have HZo := Lib.hid (show zc.all (·.oneCell') = true by rw [← Hzc.out]; exact zC_one)
  have HMy := Lib.hid (fun W => (show Calls Try.prog 19 #[.agg cf] W fun e w' => e = .returned (.bool s1.1.mayB) ∧ Below W.heap.size W w' from by rw [← hcf]; exact may19_w s1.1 Hok.out W))
  have Hcf := Lib.hid hcf
  have HCz := Lib.hid (show ∀ W, RC w W (.slice p b.length c) b R V C s1 → W.heap[w.heap.size]? = some (.cells zc 30) from fun W h => by rw [← Hzc.out]; exact h.rz)
  clear hcf
  obtain ⟨d, hd⟩ : ∃ d, Form.done b.length s1.2.1 s1.2.2 = d := ⟨_, rfl⟩
  have HD := Lib.hid hd
  have HDn := Lib.hid (show Calls Try.prog 50 #[.pointer (some ⟨R, 0, none⟩)] WL fun r w' => r = .returned (.int .i64 d) ∧ RegT.Same WL w' from by rw [← hd]; exact done_w R _ b s1.2.1 s1.2.2 WL HC.out.rd HC.out.bs HC.out.ha)
  clear hd
  by_cases h0 : d = 0
  · subst h0
    cases hm : s1.1.mayB with
    | true =>
      have HMt := Lib.hid hm
      rw [hm] at HMy
      clear hm
      go_wp2_with (first
        | (go_at_call 50; (with_reducible refine (HDn.out).mono ?_); rintro r w8 ⟨rfl, hS⟩; have HC8 := Lib.hid (HC.out.same hS); clear hS)
        | (refine wpList_load_cc rfl (.tmp 5) rfl rfl (HCc.out _ HC8.out) hcs ?_)
        | (go_at_call 19; (with_reducible refine (HMy.out _).mono ?_); rintro r w9 ⟨rfl, hB⟩; have HC9 := Lib.hid (HC8.out.keep hB); clear hB)
        | (refine wpList_load_cc rfl (.tmp 5) rfl rfl (HCc.out _ HC9.out) hcs ?_)
        | (refine wpList_store_rowTo rfl 30 (.tmp 2) (.tmp 119) rfl rfl _ cf rfl rfl 30 zc (HCz.out _ HC9.out) (show _ = some cf.size by rw [hcs]; kernel_rfl) (by rw [hcs, hzs]) HCo.out ?_))
      obtain ⟨hend, hres⟩ := HC9.out.result cf
      refine bodyPost_ret (v := .tuple #[.agg cf, .int .i64 0]) (results_cell_tmp rfl _ _ w.heap.size 30 _ _ _ _ rfl rfl hres rfl Try.underlying30 (show _ = some cf.size by rw [hcs]; kernel_rfl)) rfl ?_
      have ha := rdAns_yes Hfi.out HD.out HMt.out hend
      rw [Hcf.out] at ha
      exact ha
    | false =>
      have HMt := Lib.hid hm
      rw [hm] at HMy
      clear hm
      go_wp2_with (first
        | (go_at_call 50; (with_reducible refine (HDn.out).mono ?_); rintro r w8 ⟨rfl, hS⟩; have HC8 := Lib.hid (HC.out.same hS); clear hS)
        | (refine wpList_load_cc rfl (.tmp 5) rfl rfl (HCc.out _ HC8.out) hcs ?_)
        | (go_at_call 19; (with_reducible refine (HMy.out _).mono ?_); rintro r w9 ⟨rfl, hB⟩; have HC9 := Lib.hid (HC8.out.keep hB); clear hB)
        | (refine wpList_plain_value (v := .agg zc) rfl (by rw [← Hzc.out]; exact exec_build30e rfl) ?_)
        | (refine wpList_store_rowTo rfl 30 (.tmp 2) (.tmp 118) rfl rfl _ zc rfl rfl 30 zc (HCz.out _ HC9.out) (show _ = some zc.size by rw [hzs]; kernel_rfl) rfl HZo.out ?_))
      obtain ⟨hend, hres⟩ := HC9.out.result zc
      refine bodyPost_ret (v := .tuple #[.agg zc, .int .i64 5]) (results_cell_tmp rfl _ _ w.heap.size 30 _ _ _ _ rfl rfl hres rfl Try.underlying30 (show _ = some zc.size by rw [hzs]; kernel_rfl)) rfl ?_
      have ha := rdAns_no Hfi.out (.inr HMt.out) hend
      rw [Hzc.out] at ha
      exact ha
  · have hdn : (d != 0) = true := by simpa using h0
    have HD0 := Lib.hid (show Form.done b.length s1.2.1 s1.2.2 ≠ 0 from by rw [HD.out]; exact h0)
    clear h0
    go_wp2_with (first
      | (go_at_call 50; (with_reducible refine (HDn.out).mono ?_); rintro r w8 ⟨rfl, hS⟩; have HC8 := Lib.hid (HC.out.same hS); clear hS)
      | (refine wpList_plain_value (v := .agg zc) rfl (by rw [← Hzc.out]; exact exec_build30e rfl) ?_)
      | (refine wpList_store_rowTo rfl 30 (.tmp 2) (.tmp 118) rfl rfl _ zc rfl rfl 30 zc (HCz.out _ HC8.out) (show _ = some zc.size by rw [hzs]; kernel_rfl) rfl HZo.out ?_))
    obtain ⟨hend, hres⟩ := HC8.out.result zc
    refine bodyPost_ret (v := .tuple #[.agg zc, .int .i64 5]) (results_cell_tmp rfl _ _ w.heap.size 30 _ _ _ _ rfl rfl hres rfl Try.underlying30 (show _ = some zc.size by rw [hzs]; kernel_rfl)) rfl ?_
    have ha := rdAns_no Hfi.out (.inl HD0.out) hend
    rw [Hzc.out] at ha
    exact ha

set_option maxRecDepth 100000 in
set_option maxHeartbeats 12800000 in
theorem read21_14_w (v : Value) (b : List UInt8) (w : World) (hb : RdB w v b) (hl : b.length ≤ 1000000) (hkd : (Form.small b 0 0 14).1 = 14) : Calls Try.prog 21 #[v] w (RdAns w b) := by
  obtain ⟨p, c, rfl, hpt⟩ := hb
  have HBv := Lib.hid (show RdB w (.slice p b.length c) b from ⟨p, c, rfl, hpt⟩)
  have HBn := Lib.hid (((HBv.out.keeps ((Keeps.refl w).alloc (.cells zC 30))).keeps ((Keeps.refl _).alloc (.cells #[.slice p b.length c, .int .i64 0, .int .i64 0] 98))).keeps ((Keeps.refl _).alloc (.cells #[.pointer (some ⟨w.heap.size + 1, 0, none⟩)] 70)))
  have Hkd := Lib.hid hkd
  have Hl := Lib.hid hl
  clear hpt hkd
  obtain ⟨zc, hzc⟩ : ∃ zc, zC = zc := ⟨_, rfl⟩
  have hz := hz30
  rw [hzc] at hz
  rw [hzc] at HBn
  have Hzc := Lib.hid hzc
  have hzs : zc.size = 35 := by rw [← hzc]; rfl
  clear hzc
  have HRd := Lib.hid (show Rdr (((w.alloc (.cells zc 30)).alloc (.cells #[.slice p b.length c, .int .i64 0, .int .i64 0] 98)).alloc (.cells #[.pointer (some ⟨w.heap.size + 1, 0, none⟩)] 70)) (w.heap.size + 1) (.slice p b.length c) 0 0 from by
    unfold Rdr
    rw [Below.heap_alloc _ _ _ (by simp)]
    have := heap_alloc_new (w.alloc (.cells zc 30)) (.cells #[.slice p b.length c, .int .i64 0, .int .i64 0] 98)
    rw [heap_alloc_size] at this
    exact this)
  obtain ⟨kc, hkc⟩ : ∃ kc, kC 14 = kc := ⟨_, rfl⟩
  have hks : kc.size = 35 := by rw [← hkc]; rfl
  have HK1 := Lib.hid (show kc.all (·.oneCell') = true by rw [← hkc]; exact cmc_one ..)
  have Hkc := Lib.hid hkc
  clear hkc
  go_enter Try.func21, Try.ntmps21
  go_upto_region 3 with (first
    | (refine wpList_alloc_zero rfl 30 rfl _ hz ?_)
    | (go_at_call 41; (with_reducible refine (new_w p b.length c _).mono ?_); rintro r w1 ⟨rfl, rfl⟩)
    | (go_at_call 42; (with_reducible refine (small_z (w.heap.size + 1) (.slice p b.length c) b 0 0 14 14 rfl _ HRd.out HBn.out (Nat.zero_le _) hl (by decide)).mono ?_); rintro r w2 ⟨n, a0, e0, hs, rfl, hm⟩; have HS := Lib.hid hs; have HM := Lib.hid hm; obtain rfl : n = 14 := (by have h := Hkd.out; rw [hs] at h; exact h); clear hs hm)
    | (refine wpList_plain_value (v := .agg kc) rfl (by rw [← Hkc.out]; exact exec_build30 14 (.tmp 13) rfl rfl) ?_)
    | (refine wpList_store_rowTo rfl 30 (.tmp 5) (.tmp 14) rfl rfl _ kc rfl rfl 30 zc (heap_alloc_new w2 _) (show _ = some kc.size by rw [hks]; kernel_rfl) (by rw [hks, hzs]) HK1.out ?_))
  rw [alloc_setRow]
  have HC0 := Lib.hid (show RC w (w2.alloc (.cells kc 30)) (.slice p b.length c) b (w.heap.size + 1) (w.heap.size + 1 + 1) w2.heap.size (Cm.rd0 b) from by rw [← Hkc.out]; exact RC.begin HBv.out Hl.out (by rw [Hzc.out]; exact HM.out) HS.out)
  obtain ⟨W0, hW0⟩ : ∃ W0, w2.alloc (.cells kc 30) = W0 := ⟨_, rfl⟩
  rw [hW0] at HC0
  rw [hW0]
  obtain ⟨C, hC⟩ : ∃ C, w2.heap.size = C := ⟨_, rfl⟩
  rw [hC] at HC0
  rw [hC]
  obtain ⟨V, hV⟩ : ∃ V, w.heap.size + 1 + 1 = V := ⟨_, rfl⟩
  rw [hV] at HC0
  rw [hV]
  obtain ⟨R, hR⟩ : ∃ R, w.heap.size + 1 = R := ⟨_, rfl⟩
  rw [hR] at HC0
  clear hW0 hC hV hR HRd HBn HBv HM
  have Hfin := Lib.hid (show Cm.rd b = (flds 14).foldl (Cm.rdL b) (Cm.rd0 b) from by unfold Cm.rd; rw [HS.out])
  have Hk0 := Lib.hid (show (Cm.rd0 b).1.cells[0]? = some (.int .u8 14) from by unfold Cm.rd0; rw [HS.out]; rfl)
  obtain ⟨s0, hs0⟩ : ∃ s, Cm.rd0 b = s := ⟨_, rfl⟩
  rw [hs0] at HC0 Hfin Hk0
  clear hs0 HS
  have k0 := (HC0.out.at 0).trans Hk0.out
  have v0 := HC0.out.var
  go_upto_region 47 with (first
    | (go_at_call 59; (with_reducible refine (cont59_w HC0.out).mono ?_); rintro r W1 ⟨rfl, hC⟩; obtain ⟨s1, hq1⟩ : ∃ s, Cm.rdL b s0 99 = s := ⟨_, rfl⟩; rw [hq1] at hC; have HQ1 := Lib.hid hq1; have HC1 := Lib.hid hC; clear hC hq1; have v1 := HC1.out.var))
  have hfin : Cm.rd b = s1 := by rw [Hfin.out]; show Cm.rdL b (s0) 99 = _; rw [HQ1.out]
  have Hfi := Lib.hid hfin
  have Hok := Lib.hid HC1.out.ok
  have HC := HC1
  have hv := HC.out.var
  clear hfin v0 v1 k0
  obtain ⟨WL, hWL⟩ : ∃ WL, W1 = WL := ⟨_, rfl⟩
  rw [hWL] at HC hv
  rw [hWL]
  clear hWL
  obtain ⟨cf, hcf⟩ : ∃ cf, s1.1.cells = cf := ⟨_, rfl⟩
  have HCc := Lib.hid (show ∀ W, RC w W (.slice p b.length c) b R V C s1 → CcAt W C cf from fun W h => by rw [← hcf]; exact h.c)
  have hcs : cf.size = 35 := by rw [← hcf]; rfl
  have HCo := Lib.hid (show cf.all (·.oneCell') = true by rw [← hcf]; exact Cm.cells_one _)
  have HZo := Lib.hid (show zc.all (·.oneCell') = true by rw [← Hzc.out]; exact zC_one)
  have HMy := Lib.hid (fun W => (show Calls Try.prog 19 #[.agg cf] W fun e w' => e = .returned (.bool s1.1.mayB) ∧ Below W.heap.size W w' from by rw [← hcf]; exact may19_w s1.1 Hok.out W))
  have Hcf := Lib.hid hcf
  have HCz := Lib.hid (show ∀ W, RC w W (.slice p b.length c) b R V C s1 → W.heap[w.heap.size]? = some (.cells zc 30) from fun W h => by rw [← Hzc.out]; exact h.rz)
  clear hcf
  obtain ⟨d, hd⟩ : ∃ d, Form.done b.length s1.2.1 s1.2.2 = d := ⟨_, rfl⟩
  have HD := Lib.hid hd
  have HDn := Lib.hid (show Calls Try.prog 50 #[.pointer (some ⟨R, 0, none⟩)] WL fun r w' => r = .returned (.int .i64 d) ∧ RegT.Same WL w' from by rw [← hd]; exact done_w R _ b s1.2.1 s1.2.2 WL HC.out.rd HC.out.bs HC.out.ha)
  clear hd
  by_cases h0 : d = 0
  · subst h0
    cases hm : s1.1.mayB with
    | true =>
      have HMt := Lib.hid hm
      rw [hm] at HMy
      clear hm
      go_wp2_with (first
        | (go_at_call 50; (with_reducible refine (HDn.out).mono ?_); rintro r w8 ⟨rfl, hS⟩; have HC8 := Lib.hid (HC.out.same hS); clear hS)
        | (refine wpList_load_cc rfl (.tmp 5) rfl rfl (HCc.out _ HC8.out) hcs ?_)
        | (go_at_call 19; (with_reducible refine (HMy.out _).mono ?_); rintro r w9 ⟨rfl, hB⟩; have HC9 := Lib.hid (HC8.out.keep hB); clear hB)
        | (refine wpList_load_cc rfl (.tmp 5) rfl rfl (HCc.out _ HC9.out) hcs ?_)
        | (refine wpList_store_rowTo rfl 30 (.tmp 2) (.tmp 119) rfl rfl _ cf rfl rfl 30 zc (HCz.out _ HC9.out) (show _ = some cf.size by rw [hcs]; kernel_rfl) (by rw [hcs, hzs]) HCo.out ?_))
      obtain ⟨hend, hres⟩ := HC9.out.result cf
      refine bodyPost_ret (v := .tuple #[.agg cf, .int .i64 0]) (results_cell_tmp rfl _ _ w.heap.size 30 _ _ _ _ rfl rfl hres rfl Try.underlying30 (show _ = some cf.size by rw [hcs]; kernel_rfl)) rfl ?_
      have ha := rdAns_yes Hfi.out HD.out HMt.out hend
      rw [Hcf.out] at ha
      exact ha
    | false =>
      have HMt := Lib.hid hm
      rw [hm] at HMy
      clear hm
      go_wp2_with (first
        | (go_at_call 50; (with_reducible refine (HDn.out).mono ?_); rintro r w8 ⟨rfl, hS⟩; have HC8 := Lib.hid (HC.out.same hS); clear hS)
        | (refine wpList_load_cc rfl (.tmp 5) rfl rfl (HCc.out _ HC8.out) hcs ?_)
        | (go_at_call 19; (with_reducible refine (HMy.out _).mono ?_); rintro r w9 ⟨rfl, hB⟩; have HC9 := Lib.hid (HC8.out.keep hB); clear hB)
        | (refine wpList_plain_value (v := .agg zc) rfl (by rw [← Hzc.out]; exact exec_build30e rfl) ?_)
        | (refine wpList_store_rowTo rfl 30 (.tmp 2) (.tmp 118) rfl rfl _ zc rfl rfl 30 zc (HCz.out _ HC9.out) (show _ = some zc.size by rw [hzs]; kernel_rfl) rfl HZo.out ?_))
      obtain ⟨hend, hres⟩ := HC9.out.result zc
      refine bodyPost_ret (v := .tuple #[.agg zc, .int .i64 5]) (results_cell_tmp rfl _ _ w.heap.size 30 _ _ _ _ rfl rfl hres rfl Try.underlying30 (show _ = some zc.size by rw [hzs]; kernel_rfl)) rfl ?_
      have ha := rdAns_no Hfi.out (.inr HMt.out) hend
      rw [Hzc.out] at ha
      exact ha
  · have hdn : (d != 0) = true := by simpa using h0
    have HD0 := Lib.hid (show Form.done b.length s1.2.1 s1.2.2 ≠ 0 from by rw [HD.out]; exact h0)
    clear h0
    go_wp2_with (first
      | (go_at_call 50; (with_reducible refine (HDn.out).mono ?_); rintro r w8 ⟨rfl, hS⟩; have HC8 := Lib.hid (HC.out.same hS); clear hS)
      | (refine wpList_plain_value (v := .agg zc) rfl (by rw [← Hzc.out]; exact exec_build30e rfl) ?_)
      | (refine wpList_store_rowTo rfl 30 (.tmp 2) (.tmp 118) rfl rfl _ zc rfl rfl 30 zc (HCz.out _ HC8.out) (show _ = some zc.size by rw [hzs]; kernel_rfl) rfl HZo.out ?_))
    obtain ⟨hend, hres⟩ := HC8.out.result zc
    refine bodyPost_ret (v := .tuple #[.agg zc, .int .i64 5]) (results_cell_tmp rfl _ _ w.heap.size 30 _ _ _ _ rfl rfl hres rfl Try.underlying30 (show _ = some zc.size by rw [hzs]; kernel_rfl)) rfl ?_
    have ha := rdAns_no Hfi.out (.inl HD0.out) hend
    rw [Hzc.out] at ha
    exact ha
theorem read21_w (v : Value) (b : List UInt8) (w : World) (hb : RdB w v b) (hl : b.length ≤ 1000000) : Calls Try.prog 21 #[v] w (RdAns w b) := by
  have h := small_top b 0 0 14
  obtain ⟨k, hk⟩ : ∃ k, (Form.small b 0 0 14).1 = k := ⟨_, rfl⟩
  rw [hk] at h
  have hw : k = 0 ∨ k = 1 ∨ k = 2 ∨ k = 3 ∨ k = 4 ∨ k = 5 ∨ k = 6 ∨ k = 7 ∨ k = 8 ∨ k = 9 ∨ k = 10 ∨ k = 11 ∨ k = 12 ∨ k = 13 ∨ k = 14 := by omega
  rcases hw with rfl | rfl | rfl | rfl | rfl | rfl | rfl | rfl | rfl | rfl | rfl | rfl | rfl | rfl | rfl
  · exact read21_0_w v b w hb hl hk
  · exact read21_1_w v b w hb hl hk
  · exact read21_2_w v b w hb hl hk
  · exact read21_3_w v b w hb hl hk
  · exact read21_4_w v b w hb hl hk
  · exact read21_5_w v b w hb hl hk
  · exact read21_6_w v b w hb hl hk
  · exact read21_7_w v b w hb hl hk
  · exact read21_8_w v b w hb hl hk
  · exact read21_9_w v b w hb hl hk
  · exact read21_10_w v b w hb hl hk
  · exact read21_11_w v b w hb hl hk
  · exact read21_12_w v b w hb hl hk
  · exact read21_13_w v b w hb hl hk
  · exact read21_14_w v b w hb hl hk
end Go.Proofs.Ytoflehlkacofjaa
