/- The walk of the law WordsOnly. -/
import Derived.Test.YtoflehlkacofjaaQeC11
namespace Go.Proofs.Ytoflehlkacofjaa
open Go.ChangeShapes Go.WideShapes Go.ChangeAt Go.RowKit
set_option linter.unusedVariables false
theorem tk_total {α : Type} (step : Nat → Int → α × Nat × Int) (b : List UInt8) (a : Nat) (e : Int) : ∃ l a' e', TkRel step b a e l a' e' := by
  by_cases h : ∀ k, k < (Form.small b a e 4000).1 → (stN step (Form.small b a e 4000).2.1 (Form.small b a e 4000).2.2 k).1 < b.length
  · exact ⟨_, _, _, .inl ⟨rfl, rfl, h⟩⟩
  · have hx : ∃ k, k < (Form.small b a e 4000).1 ∧ b.length ≤ (stN step (Form.small b a e 4000).2.1 (Form.small b a e 4000).2.2 k).1 := by
      apply Classical.byContradiction
      intro hn
      exact h fun k hk => Nat.lt_of_not_le fun hl => hn ⟨k, hk, hl⟩
    obtain ⟨k, hk, hl⟩ := hx
    exact ⟨_, _, _, .inr ⟨rfl, k, hk, hl, rfl, rfl⟩⟩
theorem rdw_total (b : List UInt8) : ∃ x a e, RdW b x a e := by
  by_cases h : (Form.small b 0 0 999).1 = 0
  · obtain ⟨n1, a1, e1, h1⟩ : ∃ n a e, s64 b (Form.small b 0 0 999).2.1 (Form.small b 0 0 999).2.2 = (n, a, e) := ⟨_, _, _, rfl⟩
    obtain ⟨n2, a2, e2, h2⟩ : ∃ n a e, s64 b a1 e1 = (n, a, e) := ⟨_, _, _, rfl⟩
    obtain ⟨n3, a3, e3, h3⟩ : ∃ n a e, s64 b a2 e2 = (n, a, e) := ⟨_, _, _, rfl⟩
    obtain ⟨l4, a4, e4, h4⟩ := tk_total (sTr b) b a3 e3
    obtain ⟨l5, a5, e5, h5⟩ := tk_total (s64 b) b a4 e4
    obtain ⟨l6, a6, e6, h6⟩ := tk_total (s32 b) b a5 e5
    exact ⟨⟨0, n1, Form.unfold_ n2, Form.unfold_ n3, l4, l5, l6⟩, a6, e6, .inr ⟨h, n1, a1, e1, n2, a2, e2, n3, a3, e3, a4, e4, a5, e5, h1, h2, h3, h4, h5, h6, rfl, rfl, rfl, rfl⟩⟩
  · exact ⟨_, _, _, .inl ⟨h, rfl, rfl⟩⟩
/-- A reply's form with a byte more is none. -/
theorem rp_more {b : List UInt8} {x : Rp} (h : RpOf b x) (m : UInt8) : RpNone (b ++ [m]) := by
  rintro y ⟨y1, y2, y3⟩
  obtain ⟨h1, h2, h3⟩ := h
  obtain ⟨z, a, e, hz⟩ := rdw_total (b ++ [m])
  obtain ⟨_, k1, _⟩ := RdRp.of_form [m] hz h1 h2 (by rw [h3]) (fun hok hl hd h => TkRel.form (sTr_of _) hok hl hd h) (fun hok hl hd h => TkRel.form (s64_of _) hok hl hd h) (fun hok hl hd h => TkRel.form (s32_of _) hok hl hd h)
  obtain ⟨_, k2, _⟩ := RdRp.of_form [] hz y1 y2 (by rw [y3, List.append_nil]) (fun hok hl hd h => TkRel.form (sTr_of _) hok hl hd h) (fun hok hl hd h => TkRel.form (s64_of _) hok hl hd h) (fun hok hl hd h => TkRel.form (s32_of _) hok hl hd h)
  rw [h3] at k1
  rw [y3] at k2
  simp at k2
  omega
/-- What the callees do. -/
structure OnC (b : List UInt8) (m : Nat) (cc : Array Value) (e f : Bool) (x : Rp) : Prop where
  c21 : ∀ W v, RdB W v b → Calls Try.prog 21 #[v] W fun r w' => r = .returned (.tuple #[.agg cc, .int .i64 (if e then 0 else 5)]) ∧ Below W.heap.size W w'
  c21m : e = true → ∀ W v, RdB W v (b ++ [UInt8.ofNat m]) → Calls Try.prog 21 #[v] W fun r w' => r = .returned (.tuple #[.agg zC, .int .i64 5]) ∧ Below W.heap.size W w'
  c10 : e = true → ∀ W, Calls Try.prog 10 #[.agg cc] W fun r w' => (∃ p n c, r = .returned (.tuple #[.slice p n c, .int .i64 0]) ∧ RdB w' (.slice p n c) b) ∧ Below W.heap.size W w'
  c17y : f = true → ∀ W v, RdB W v b → Calls Try.prog 17 #[v] W fun r w' => (∃ cy, r = .returned (.tuple #[.agg cy, .int .i64 0]) ∧ InP x w' cy) ∧ Below W.heap.size W w'
  c17n : f = false → ∀ W v, RdB W v b → Calls Try.prog 17 #[v] W fun r w' => r = .returned (.tuple #[.agg zR, .int .i64 5]) ∧ Below W.heap.size W w'
  c17m : f = true → ∀ W v, RdB W v (b ++ [UInt8.ofNat m]) → Calls Try.prog 17 #[v] W fun r w' => r = .returned (.tuple #[.agg zR, .int .i64 5]) ∧ Below W.heap.size W w'
  c11 : f = true → ∀ W cy, InP x W cy → Calls Try.prog 11 #[.agg cy] W fun r w' => (∃ p n c, r = .returned (.tuple #[.slice p n c, .int .i64 0]) ∧ RdB w' (.slice p n c) b) ∧ Below W.heap.size W w'
  sz : cc.size = 35
  one : cc.all (·.oneCell') = true
/-- Bytes stay readable. -/
structure On (w W : World) (v : Value) (b : List UInt8) : Prop where
  v : RdB W v b
  below : Below w.heap.size w W
theorem On.keep {w W W' : World} {v : Value} {b : List UInt8} (h : On w W v b) (hB : Below W.heap.size W W') : On w W' v b := ⟨h.v.keeps hB.block, h.below.trans (hB.mono h.below.size)⟩
theorem On.alloc {w W : World} {v : Value} {b : List UInt8} (h : On w W v b) (o : Obj) : On w (W.alloc o) v b := h.keep ((Below.refl _ _).alloc (Nat.le_refl _) o)
theorem RdB.form_ {W : World} {v : Value} {b : List UInt8} (h : RdB W v b) : ∃ p c, v = .slice p b.length c := by obtain ⟨p, c, e, _⟩ := h; exact ⟨p, c, e⟩
theorem below_new {W w2 : World} {l : List UInt8} {v : Value} {W0 : World} (ho : OB W W0.heap.size 5 v l) (hg : W.grownBy w2 v.ownBlock) (hs : W0.heap.size ≤ W.heap.size) : Below W0.heap.size W w2 := below_own ho hg hs
set_option maxRecDepth 100000 in
set_option maxHeartbeats 12800000 in
theorem only_long_w (w : World) (p : Option Addr) (c L m : Nat) (hl : 20000 < L) : Calls Try.prog 7 #[.slice p L c, .int .u8 (m : Int)] w fun e w' => e = .returned (.bool true) ∧ Below w.heap.size w w' := by
  have hgt : decide (20000 < (L : Int)) = true := by simp; omega
  clear hl
  go_enter Try.func7, Try.ntmps7
  go_wp2_with (go_at_call 9; (with_reducible refine (known9_w _).mono ?_); rintro r w9 ⟨rfl, hB⟩; have HB := Lib.hid hB; clear hB)
  go_ret
  exact ⟨rfl, HB.out⟩
set_option maxRecDepth 100000 in
set_option maxHeartbeats 12800000 in
theorem only_false_false_w (w : World) (p : Option Addr) (c : Nat) (b : List UInt8) (m : Nat) (cc : Array Value) (x : Rp) (hv : RdB w (.slice p b.length c) b) (hl : b.length ≤ 20000) (hm : m < 256) (HC : OnC b m cc false false x) : Calls Try.prog 7 #[.slice p b.length c, .int .u8 (m : Int)] w fun e w' => e = .returned (.bool true) ∧ Below w.heap.size w w' := by
  have HF := Lib.hid (show On w w (.slice p b.length c) b from ⟨hv, Below.refl _ _⟩)
  have hgt : decide (20000 < (b.length : Int)) = false := by simp; omega
  have hsc := HC.sz
  have HOc := Lib.hid HC.one
  have HN := Lib.hid HC
  have Hl := Lib.hid hl
  have Hm := Lib.hid hm
  have HZo := Lib.hid zR_one
  have HZc := Lib.hid zC_one
  clear HC hv hm
  have hz := hz30
  have hzr := hz36
  obtain ⟨zc, hzc⟩ : ∃ zc, zC = zc := ⟨_, rfl⟩
  obtain ⟨zr, hzr'⟩ : ∃ zr, zR = zr := ⟨_, rfl⟩
  have E30 := Lib.hid hzc
  have E36 := Lib.hid hzr'
  rw [hzc] at hz HZc
  rw [hzr'] at hzr HZo
  have hzs : zc.size = 35 := by rw [← hzc]; rfl
  have hzrs : zr.size = 7 := by rw [← hzr']; rfl
  clear hzc hzr'
  obtain ⟨L, hL⟩ : ∃ L, b.length = L := ⟨_, rfl⟩
  rw [hL] at hgt HF hl
  rw [hL]
  have HLn := Lib.hid hL
  clear hL
  go_enter Try.func7, Try.ntmps7
  go_upto_region 4 with (first
    | (go_at_call 21; (with_reducible refine (HN.out.c21 _ _ HF.out.v).mono ?_); rintro r w1 ⟨rfl, hB⟩; have HF := Lib.hid (HF.out.keep hB); clear hB)
    | (refine wpList_alloc_zero rfl 30 rfl _ hz ?_)
    | (refine wpList_store_rowTo rfl 30 (.tmp 5) (.tmp 24) rfl rfl _ cc rfl rfl 30 zc (heap_alloc_new w1 _) (show _ = some cc.size by rw [hsc]; kernel_rfl) (by rw [hsc, hzs]) HOc.out ?_))
  rw [alloc_setRow]
  have HX := Lib.hid (CcAt.new w1 cc)
  have HF := Lib.hid (HF.out.alloc (.cells cc 30))
  obtain ⟨W1, hW1⟩ : ∃ W1, w1.alloc (.cells cc 30) = W1 := ⟨_, rfl⟩
  rw [hW1] at HF HX
  rw [hW1]
  clear hW1
  obtain ⟨P, hP⟩ : ∃ P, w1.heap.size = P := ⟨_, rfl⟩
  rw [hP] at HX
  rw [hP]
  clear hP
  obtain ⟨cy, hcy⟩ : ∃ cy, zr = cy := ⟨_, rfl⟩
  have hsy : cy.size = 7 := by rw [← hcy]; exact hzrs
  have HOy := Lib.hid (show cy.all (·.oneCell') = true by rw [← hcy]; exact HZo.out)
  have Ecy := Lib.hid (E36.out.trans hcy)
  clear hcy
  go_upto_region 5 with (first
    | (go_at_call 17; (with_reducible refine (HN.out.c17n rfl _ _ HF.out.v).mono ?_); rintro r w2 ⟨rfl, hB⟩; rw [Ecy.out]; have HF := Lib.hid (HF.out.keep hB); have HX := Lib.hid (HX.out.keeps hB.block); clear hB)
    | (refine wpList_alloc_zero rfl 36 rfl _ hzr ?_)
    | (refine wpList_store_rowTo rfl 36 (.tmp 7) (.tmp 29) rfl rfl _ cy rfl rfl 36 zr (heap_alloc_new w2 _) (show _ = some cy.size by rw [hsy]; kernel_rfl) (by rw [hsy, hzrs]) HOy.out ?_))
  rw [alloc_setRow]
  have HY := Lib.hid (RrAt.new w2 cy)
  have HF := Lib.hid (HF.out.alloc (.cells cy 36))
  have HX := Lib.hid (HX.out.keeps ((Keeps.refl w2).alloc (.cells cy 36)))
  obtain ⟨W2, hW2⟩ : ∃ W2, w2.alloc (.cells cy 36) = W2 := ⟨_, rfl⟩
  rw [hW2] at HF HX HY
  rw [hW2]
  clear hW2
  obtain ⟨Q, hQ⟩ : ∃ Q, w2.heap.size = Q := ⟨_, rfl⟩
  rw [hQ] at HY
  rw [hQ]
  clear hQ
  go_wp2_with (go_at_call 9; (with_reducible refine (known9_w _).mono ?_); rintro r w9 ⟨rfl, hB⟩; have HF := Lib.hid (HF.out.keep hB); clear hB)
  go_ret
  exact ⟨rfl, HF.out.below⟩
set_option maxRecDepth 100000 in
set_option maxHeartbeats 12800000 in
theorem only_true_false_w (w : World) (p : Option Addr) (c : Nat) (b : List UInt8) (m : Nat) (cc : Array Value) (x : Rp) (hv : RdB w (.slice p b.length c) b) (hl : b.length ≤ 20000) (hm : m < 256) (HC : OnC b m cc true false x) : Calls Try.prog 7 #[.slice p b.length c, .int .u8 (m : Int)] w fun e w' => e = .returned (.bool true) ∧ Below w.heap.size w w' := by
  have HF := Lib.hid (show On w w (.slice p b.length c) b from ⟨hv, Below.refl _ _⟩)
  have hgt : decide (20000 < (b.length : Int)) = false := by simp; omega
  have hsc := HC.sz
  have HOc := Lib.hid HC.one
  have HN := Lib.hid HC
  have Hl := Lib.hid hl
  have Hm := Lib.hid hm
  have HZo := Lib.hid zR_one
  have HZc := Lib.hid zC_one
  clear HC hv hm
  have hz := hz30
  have hzr := hz36
  obtain ⟨zc, hzc⟩ : ∃ zc, zC = zc := ⟨_, rfl⟩
  obtain ⟨zr, hzr'⟩ : ∃ zr, zR = zr := ⟨_, rfl⟩
  have E30 := Lib.hid hzc
  have E36 := Lib.hid hzr'
  rw [hzc] at hz HZc
  rw [hzr'] at hzr HZo
  have hzs : zc.size = 35 := by rw [← hzc]; rfl
  have hzrs : zr.size = 7 := by rw [← hzr']; rfl
  clear hzc hzr'
  obtain ⟨L, hL⟩ : ∃ L, b.length = L := ⟨_, rfl⟩
  rw [hL] at hgt HF hl
  rw [hL]
  have HLn := Lib.hid hL
  clear hL
  go_enter Try.func7, Try.ntmps7
  go_upto_region 4 with (first
    | (go_at_call 21; (with_reducible refine (HN.out.c21 _ _ HF.out.v).mono ?_); rintro r w1 ⟨rfl, hB⟩; have HF := Lib.hid (HF.out.keep hB); clear hB)
    | (refine wpList_alloc_zero rfl 30 rfl _ hz ?_)
    | (refine wpList_store_rowTo rfl 30 (.tmp 5) (.tmp 24) rfl rfl _ cc rfl rfl 30 zc (heap_alloc_new w1 _) (show _ = some cc.size by rw [hsc]; kernel_rfl) (by rw [hsc, hzs]) HOc.out ?_))
  rw [alloc_setRow]
  have HX := Lib.hid (CcAt.new w1 cc)
  have HF := Lib.hid (HF.out.alloc (.cells cc 30))
  obtain ⟨W1, hW1⟩ : ∃ W1, w1.alloc (.cells cc 30) = W1 := ⟨_, rfl⟩
  rw [hW1] at HF HX
  rw [hW1]
  clear hW1
  obtain ⟨P, hP⟩ : ∃ P, w1.heap.size = P := ⟨_, rfl⟩
  rw [hP] at HX
  rw [hP]
  clear hP
  obtain ⟨cy, hcy⟩ : ∃ cy, zr = cy := ⟨_, rfl⟩
  have hsy : cy.size = 7 := by rw [← hcy]; exact hzrs
  have HOy := Lib.hid (show cy.all (·.oneCell') = true by rw [← hcy]; exact HZo.out)
  have Ecy := Lib.hid (E36.out.trans hcy)
  clear hcy
  go_upto_region 5 with (first
    | (go_at_call 17; (with_reducible refine (HN.out.c17n rfl _ _ HF.out.v).mono ?_); rintro r w2 ⟨rfl, hB⟩; rw [Ecy.out]; have HF := Lib.hid (HF.out.keep hB); have HX := Lib.hid (HX.out.keeps hB.block); clear hB)
    | (refine wpList_alloc_zero rfl 36 rfl _ hzr ?_)
    | (refine wpList_store_rowTo rfl 36 (.tmp 7) (.tmp 29) rfl rfl _ cy rfl rfl 36 zr (heap_alloc_new w2 _) (show _ = some cy.size by rw [hsy]; kernel_rfl) (by rw [hsy, hzrs]) HOy.out ?_))
  rw [alloc_setRow]
  have HY := Lib.hid (RrAt.new w2 cy)
  have HF := Lib.hid (HF.out.alloc (.cells cy 36))
  have HX := Lib.hid (HX.out.keeps ((Keeps.refl w2).alloc (.cells cy 36)))
  obtain ⟨W2, hW2⟩ : ∃ W2, w2.alloc (.cells cy 36) = W2 := ⟨_, rfl⟩
  rw [hW2] at HF HX HY
  rw [hW2]
  clear hW2
  obtain ⟨Q, hQ⟩ : ∃ Q, w2.heap.size = Q := ⟨_, rfl⟩
  rw [hQ] at HY
  rw [hQ]
  clear hQ
  go_upto_region 7 with (first
    | (refine wpList_load_cc rfl (.tmp 5) rfl rfl HX.out hsc ?_)
    | (go_at_call 10; (with_reducible refine (HN.out.c10 rfl _).mono ?_); rintro r w3 ⟨⟨p3, n3, c3, rfl, hr3⟩, hB⟩; have HF := Lib.hid (HF.out.keep hB); have HR := Lib.hid hr3; have HY := Lib.hid (HY.out.keeps hB.block); clear hB hr3))
  obtain ⟨W4, hW4⟩ : ∃ W4, w3 = W4 := ⟨_, rfl⟩
  subst hW4
  have HO4 := Lib.hid (OB.new w3 5)
  have HR4 := Lib.hid (HF.out.v.keeps ((Keeps.refl w3).alloc (.cells #[] 5)))
  have HsL := Lib.hid (show ([] : List UInt8).length + b.length ≤ 140737488355328 from by have := Hl.out; simp; omega)
  go_upto_region 8 with (first
    | (at_builtin; first
      | (refine wpList_append_bytes rfl _ _ 39 rfl hel (by rfl) HO4.out (by rfl) HR4.out HsL.out (by simp) ?_; intro p5 n5 c5 w5 hn5 ho5 hg5; have HB5 := Lib.hid (show Below w3.heap.size w3 w5 from ((Below.refl _ _).alloc (Nat.le_refl _) _).trans (below_new HO4.out hg5 (by simp))); have H77 := Lib.hid (RdB_one w5 5 m Hm.out); have HO5 := Lib.hid (ho5.alloc (.cells #[.int .u8 (m : Int)] 5)); have Hs5 := Lib.hid (show w3.heap.size ≤ (w5.alloc (.cells #[.int .u8 (m : Int)] 5)).heap.size from Nat.le_trans HB5.out.size (by simp)); clear hn5 ho5 hg5)
      | (refine wpList_append_bytes rfl _ _ 39 rfl hel (by rfl) HO5.out (by rfl) H77.out (by have := Hl.out; simp; omega) Hs5.out ?_; intro p6 n6 c6 w6 hn6 ho6 hg6; have HB6 := Lib.hid ((HB5.out.alloc HB5.out.size _).trans (below_new HO5.out hg6 Hs5.out)); have HR6 := Lib.hid (by have h := ho6.rd; rw [List.nil_append] at h; exact h); have HF := Lib.hid (HF.out.keep HB6.out); have HR := Lib.hid (HR.out.keeps HB6.out.block); have hB := HB6.out; have HY := Lib.hid (HY.out.keeps hB.block); clear hn6 ho6 hg6 hB))
    | (go_at_call 21; (with_reducible refine (HN.out.c21m rfl _ _ HR6.out).mono ?_); rintro r w7 ⟨rfl, hB⟩; rw [E30.out]; have HF := Lib.hid (HF.out.keep hB); have HR := Lib.hid (HR.out.keeps hB.block); have HY := Lib.hid (HY.out.keeps hB.block); clear hB)
    | (refine wpList_alloc_zero rfl 30 rfl _ hz ?_)
    | (refine wpList_store_rowTo rfl 30 (.tmp 11) (.tmp 46) rfl rfl _ zc rfl rfl 30 zc (heap_alloc_new w7 _) (show _ = some zc.size by rw [hzs]; kernel_rfl) rfl HZc.out ?_))
  rw [alloc_setRow]
  have HF := Lib.hid (HF.out.alloc (.cells zc 30))
  have HR := Lib.hid (HR.out.keeps ((Keeps.refl w7).alloc (.cells zc 30)))
  have HY := Lib.hid (HY.out.keeps ((Keeps.refl w7).alloc (.cells zc 30)))
  obtain ⟨W8, hW8⟩ : ∃ W8, w7.alloc (.cells zc 30) = W8 := ⟨_, rfl⟩
  rw [hW8] at HF HR HY
  rw [hW8]
  clear hW8
  have hc1 := run_convert_str (P := Try.prog) HR.out 39 5 9 Try.underlying39 Try.underlying5 Try.underlying9
  have hc2 := run_convert_str (P := Try.prog) HF.out.v 39 5 9 Try.underlying39 Try.underlying5 Try.underlying9
  go_wp2_with (go_at_call 9; (with_reducible refine (known9_w _).mono ?_); rintro r w9 ⟨rfl, hB⟩; have HF := Lib.hid (HF.out.keep hB); clear hB)
  go_ret
  exact ⟨rfl, HF.out.below⟩
set_option maxRecDepth 100000 in
set_option maxHeartbeats 12800000 in
theorem only_false_true_w (w : World) (p : Option Addr) (c : Nat) (b : List UInt8) (m : Nat) (cc : Array Value) (x : Rp) (hv : RdB w (.slice p b.length c) b) (hl : b.length ≤ 20000) (hm : m < 256) (HC : OnC b m cc false true x) : Calls Try.prog 7 #[.slice p b.length c, .int .u8 (m : Int)] w fun e w' => e = .returned (.bool true) ∧ Below w.heap.size w w' := by
  have HF := Lib.hid (show On w w (.slice p b.length c) b from ⟨hv, Below.refl _ _⟩)
  have hgt : decide (20000 < (b.length : Int)) = false := by simp; omega
  have hsc := HC.sz
  have HOc := Lib.hid HC.one
  have HN := Lib.hid HC
  have Hl := Lib.hid hl
  have Hm := Lib.hid hm
  have HZo := Lib.hid zR_one
  have HZc := Lib.hid zC_one
  clear HC hv hm
  have hz := hz30
  have hzr := hz36
  obtain ⟨zc, hzc⟩ : ∃ zc, zC = zc := ⟨_, rfl⟩
  obtain ⟨zr, hzr'⟩ : ∃ zr, zR = zr := ⟨_, rfl⟩
  have E30 := Lib.hid hzc
  have E36 := Lib.hid hzr'
  rw [hzc] at hz HZc
  rw [hzr'] at hzr HZo
  have hzs : zc.size = 35 := by rw [← hzc]; rfl
  have hzrs : zr.size = 7 := by rw [← hzr']; rfl
  clear hzc hzr'
  obtain ⟨L, hL⟩ : ∃ L, b.length = L := ⟨_, rfl⟩
  rw [hL] at hgt HF hl
  rw [hL]
  have HLn := Lib.hid hL
  clear hL
  go_enter Try.func7, Try.ntmps7
  go_upto_region 4 with (first
    | (go_at_call 21; (with_reducible refine (HN.out.c21 _ _ HF.out.v).mono ?_); rintro r w1 ⟨rfl, hB⟩; have HF := Lib.hid (HF.out.keep hB); clear hB)
    | (refine wpList_alloc_zero rfl 30 rfl _ hz ?_)
    | (refine wpList_store_rowTo rfl 30 (.tmp 5) (.tmp 24) rfl rfl _ cc rfl rfl 30 zc (heap_alloc_new w1 _) (show _ = some cc.size by rw [hsc]; kernel_rfl) (by rw [hsc, hzs]) HOc.out ?_))
  rw [alloc_setRow]
  have HX := Lib.hid (CcAt.new w1 cc)
  have HF := Lib.hid (HF.out.alloc (.cells cc 30))
  obtain ⟨W1, hW1⟩ : ∃ W1, w1.alloc (.cells cc 30) = W1 := ⟨_, rfl⟩
  rw [hW1] at HF HX
  rw [hW1]
  clear hW1
  obtain ⟨P, hP⟩ : ∃ P, w1.heap.size = P := ⟨_, rfl⟩
  rw [hP] at HX
  rw [hP]
  clear hP
  go_upto_region 5 with (first
    | (go_at_call 17; (with_reducible refine (HN.out.c17y rfl _ _ HF.out.v).mono ?_); rintro r w2 ⟨⟨cy, rfl, hp⟩, hB⟩; have HF := Lib.hid (HF.out.keep hB); have HX := Lib.hid (HX.out.keeps hB.block); have HP := Lib.hid hp; have hsy := hp.size; have HOy := Lib.hid hp.one; clear hB hp)
    | (refine wpList_alloc_zero rfl 36 rfl _ hzr ?_)
    | (refine wpList_store_rowTo rfl 36 (.tmp 7) (.tmp 29) rfl rfl _ cy rfl rfl 36 zr (heap_alloc_new w2 _) (show _ = some cy.size by rw [hsy]; kernel_rfl) (by rw [hsy, hzrs]) HOy.out ?_))
  rw [alloc_setRow]
  have HY := Lib.hid (RrAt.new w2 cy)
  have HF := Lib.hid (HF.out.alloc (.cells cy 36))
  have HX := Lib.hid (HX.out.keeps ((Keeps.refl w2).alloc (.cells cy 36)))
  have HP := Lib.hid (HP.out.keeps ((Keeps.refl w2).alloc (.cells cy 36)))
  obtain ⟨W2, hW2⟩ : ∃ W2, w2.alloc (.cells cy 36) = W2 := ⟨_, rfl⟩
  rw [hW2] at HF HX HY HP
  rw [hW2]
  clear hW2
  obtain ⟨Q, hQ⟩ : ∃ Q, w2.heap.size = Q := ⟨_, rfl⟩
  rw [hQ] at HY
  rw [hQ]
  clear hQ
  go_upto_region 12 with (first
    | (refine wpList_load_rr rfl (.tmp 7) rfl rfl HY.out hsy ?_)
    | (go_at_call 11; (with_reducible refine (HN.out.c11 rfl _ _ HP.out).mono ?_); rintro r x3 ⟨⟨q3, m3, d3, rfl, hr3⟩, hB⟩; have HF := Lib.hid (HF.out.keep hB); have HS := Lib.hid hr3; clear hB hr3))
  have HO4 := Lib.hid (OB.new x3 5)
  have HR4 := Lib.hid (HF.out.v.keeps ((Keeps.refl x3).alloc (.cells #[] 5)))
  have HsL := Lib.hid (show ([] : List UInt8).length + b.length ≤ 140737488355328 from by have := Hl.out; simp; omega)
  go_upto_region 13 with (first
    | (at_builtin; first
      | (refine wpList_append_bytes rfl _ _ 39 rfl hel (by rfl) HO4.out (by rfl) HR4.out HsL.out (by simp) ?_; intro q5 m5 d5 x5 hn5 ho5 hg5; have HB5 := Lib.hid (show Below x3.heap.size x3 x5 from ((Below.refl _ _).alloc (Nat.le_refl _) _).trans (below_new HO4.out hg5 (by simp))); have H77 := Lib.hid (RdB_one x5 5 m Hm.out); have HO5 := Lib.hid (ho5.alloc (.cells #[.int .u8 (m : Int)] 5)); have Hs5 := Lib.hid (show x3.heap.size ≤ (x5.alloc (.cells #[.int .u8 (m : Int)] 5)).heap.size from Nat.le_trans HB5.out.size (by simp)); clear hn5 ho5 hg5)
      | (refine wpList_append_bytes rfl _ _ 39 rfl hel (by rfl) HO5.out (by rfl) H77.out (by have := Hl.out; simp; omega) Hs5.out ?_; intro q6 m6 d6 x6 hn6 ho6 hg6; have HB6 := Lib.hid ((HB5.out.alloc HB5.out.size _).trans (below_new HO5.out hg6 Hs5.out)); have HR6 := Lib.hid (by have h := ho6.rd; rw [List.nil_append] at h; exact h); have HF := Lib.hid (HF.out.keep HB6.out); have HS := Lib.hid (HS.out.keeps HB6.out.block); clear hn6 ho6 hg6))
    | (go_at_call 17; (with_reducible refine (HN.out.c17m rfl _ _ HR6.out).mono ?_); rintro r x7 ⟨rfl, hB⟩; rw [E36.out]; have HF := Lib.hid (HF.out.keep hB); have HS := Lib.hid (HS.out.keeps hB.block); clear hB)
    | (refine wpList_alloc_zero rfl 36 rfl _ hzr ?_)
    | (refine wpList_store_rowTo rfl 36 (.tmp 15) (.tmp 76) rfl rfl _ zr rfl rfl 36 zr (heap_alloc_new x7 _) (show _ = some zr.size by rw [hzrs]; kernel_rfl) rfl HZo.out ?_))
  rw [alloc_setRow]
  have HF := Lib.hid (HF.out.alloc (.cells zr 36))
  have HS := Lib.hid (HS.out.keeps ((Keeps.refl x7).alloc (.cells zr 36)))
  obtain ⟨W9, hW9⟩ : ∃ W9, x7.alloc (.cells zr 36) = W9 := ⟨_, rfl⟩
  rw [hW9] at HF HS
  rw [hW9]
  clear hW9
  have he1 := run_convert_str (P := Try.prog) HS.out 39 5 9 Try.underlying39 Try.underlying5 Try.underlying9
  have he2 := run_convert_str (P := Try.prog) HF.out.v 39 5 9 Try.underlying39 Try.underlying5 Try.underlying9
  go_wp2_with (go_at_call 9; (with_reducible refine (known9_w _).mono ?_); rintro r w9 ⟨rfl, hB⟩; have HF := Lib.hid (HF.out.keep hB); clear hB)
  go_ret
  exact ⟨rfl, HF.out.below⟩
set_option maxRecDepth 100000 in
set_option maxHeartbeats 12800000 in
theorem only_true_true_w (w : World) (p : Option Addr) (c : Nat) (b : List UInt8) (m : Nat) (cc : Array Value) (x : Rp) (hv : RdB w (.slice p b.length c) b) (hl : b.length ≤ 20000) (hm : m < 256) (HC : OnC b m cc true true x) : Calls Try.prog 7 #[.slice p b.length c, .int .u8 (m : Int)] w fun e w' => e = .returned (.bool true) ∧ Below w.heap.size w w' := by
  have HF := Lib.hid (show On w w (.slice p b.length c) b from ⟨hv, Below.refl _ _⟩)
  have hgt : decide (20000 < (b.length : Int)) = false := by simp; omega
  have hsc := HC.sz
  have HOc := Lib.hid HC.one
  have HN := Lib.hid HC
  have Hl := Lib.hid hl
  have Hm := Lib.hid hm
  have HZo := Lib.hid zR_one
  have HZc := Lib.hid zC_one
  clear HC hv hm
  have hz := hz30
  have hzr := hz36
  obtain ⟨zc, hzc⟩ : ∃ zc, zC = zc := ⟨_, rfl⟩
  obtain ⟨zr, hzr'⟩ : ∃ zr, zR = zr := ⟨_, rfl⟩
  have E30 := Lib.hid hzc
  have E36 := Lib.hid hzr'
  rw [hzc] at hz HZc
  rw [hzr'] at hzr HZo
  have hzs : zc.size = 35 := by rw [← hzc]; rfl
  have hzrs : zr.size = 7 := by rw [← hzr']; rfl
  clear hzc hzr'
  obtain ⟨L, hL⟩ : ∃ L, b.length = L := ⟨_, rfl⟩
  rw [hL] at hgt HF hl
  rw [hL]
  have HLn := Lib.hid hL
  clear hL
  go_enter Try.func7, Try.ntmps7
  go_upto_region 4 with (first
    | (go_at_call 21; (with_reducible refine (HN.out.c21 _ _ HF.out.v).mono ?_); rintro r w1 ⟨rfl, hB⟩; have HF := Lib.hid (HF.out.keep hB); clear hB)
    | (refine wpList_alloc_zero rfl 30 rfl _ hz ?_)
    | (refine wpList_store_rowTo rfl 30 (.tmp 5) (.tmp 24) rfl rfl _ cc rfl rfl 30 zc (heap_alloc_new w1 _) (show _ = some cc.size by rw [hsc]; kernel_rfl) (by rw [hsc, hzs]) HOc.out ?_))
  rw [alloc_setRow]
  have HX := Lib.hid (CcAt.new w1 cc)
  have HF := Lib.hid (HF.out.alloc (.cells cc 30))
  obtain ⟨W1, hW1⟩ : ∃ W1, w1.alloc (.cells cc 30) = W1 := ⟨_, rfl⟩
  rw [hW1] at HF HX
  rw [hW1]
  clear hW1
  obtain ⟨P, hP⟩ : ∃ P, w1.heap.size = P := ⟨_, rfl⟩
  rw [hP] at HX
  rw [hP]
  clear hP
  go_upto_region 5 with (first
    | (go_at_call 17; (with_reducible refine (HN.out.c17y rfl _ _ HF.out.v).mono ?_); rintro r w2 ⟨⟨cy, rfl, hp⟩, hB⟩; have HF := Lib.hid (HF.out.keep hB); have HX := Lib.hid (HX.out.keeps hB.block); have HP := Lib.hid hp; have hsy := hp.size; have HOy := Lib.hid hp.one; clear hB hp)
    | (refine wpList_alloc_zero rfl 36 rfl _ hzr ?_)
    | (refine wpList_store_rowTo rfl 36 (.tmp 7) (.tmp 29) rfl rfl _ cy rfl rfl 36 zr (heap_alloc_new w2 _) (show _ = some cy.size by rw [hsy]; kernel_rfl) (by rw [hsy, hzrs]) HOy.out ?_))
  rw [alloc_setRow]
  have HY := Lib.hid (RrAt.new w2 cy)
  have HF := Lib.hid (HF.out.alloc (.cells cy 36))
  have HX := Lib.hid (HX.out.keeps ((Keeps.refl w2).alloc (.cells cy 36)))
  have HP := Lib.hid (HP.out.keeps ((Keeps.refl w2).alloc (.cells cy 36)))
  obtain ⟨W2, hW2⟩ : ∃ W2, w2.alloc (.cells cy 36) = W2 := ⟨_, rfl⟩
  rw [hW2] at HF HX HY HP
  rw [hW2]
  clear hW2
  obtain ⟨Q, hQ⟩ : ∃ Q, w2.heap.size = Q := ⟨_, rfl⟩
  rw [hQ] at HY
  rw [hQ]
  clear hQ
  go_upto_region 7 with (first
    | (refine wpList_load_cc rfl (.tmp 5) rfl rfl HX.out hsc ?_)
    | (go_at_call 10; (with_reducible refine (HN.out.c10 rfl _).mono ?_); rintro r w3 ⟨⟨p3, n3, c3, rfl, hr3⟩, hB⟩; have HF := Lib.hid (HF.out.keep hB); have HR := Lib.hid hr3; have HY := Lib.hid (HY.out.keeps hB.block); have HP := Lib.hid (HP.out.keeps hB.block); clear hB hr3))
  obtain ⟨W4, hW4⟩ : ∃ W4, w3 = W4 := ⟨_, rfl⟩
  subst hW4
  have HO4 := Lib.hid (OB.new w3 5)
  have HR4 := Lib.hid (HF.out.v.keeps ((Keeps.refl w3).alloc (.cells #[] 5)))
  have HsL := Lib.hid (show ([] : List UInt8).length + b.length ≤ 140737488355328 from by have := Hl.out; simp; omega)
  go_upto_region 8 with (first
    | (at_builtin; first
      | (refine wpList_append_bytes rfl _ _ 39 rfl hel (by rfl) HO4.out (by rfl) HR4.out HsL.out (by simp) ?_; intro p5 n5 c5 w5 hn5 ho5 hg5; have HB5 := Lib.hid (show Below w3.heap.size w3 w5 from ((Below.refl _ _).alloc (Nat.le_refl _) _).trans (below_new HO4.out hg5 (by simp))); have H77 := Lib.hid (RdB_one w5 5 m Hm.out); have HO5 := Lib.hid (ho5.alloc (.cells #[.int .u8 (m : Int)] 5)); have Hs5 := Lib.hid (show w3.heap.size ≤ (w5.alloc (.cells #[.int .u8 (m : Int)] 5)).heap.size from Nat.le_trans HB5.out.size (by simp)); clear hn5 ho5 hg5)
      | (refine wpList_append_bytes rfl _ _ 39 rfl hel (by rfl) HO5.out (by rfl) H77.out (by have := Hl.out; simp; omega) Hs5.out ?_; intro p6 n6 c6 w6 hn6 ho6 hg6; have HB6 := Lib.hid ((HB5.out.alloc HB5.out.size _).trans (below_new HO5.out hg6 Hs5.out)); have HR6 := Lib.hid (by have h := ho6.rd; rw [List.nil_append] at h; exact h); have HF := Lib.hid (HF.out.keep HB6.out); have HR := Lib.hid (HR.out.keeps HB6.out.block); have hB := HB6.out; have HY := Lib.hid (HY.out.keeps hB.block); have HP := Lib.hid (HP.out.keeps hB.block); clear hn6 ho6 hg6 hB))
    | (go_at_call 21; (with_reducible refine (HN.out.c21m rfl _ _ HR6.out).mono ?_); rintro r w7 ⟨rfl, hB⟩; rw [E30.out]; have HF := Lib.hid (HF.out.keep hB); have HR := Lib.hid (HR.out.keeps hB.block); have HY := Lib.hid (HY.out.keeps hB.block); have HP := Lib.hid (HP.out.keeps hB.block); clear hB)
    | (refine wpList_alloc_zero rfl 30 rfl _ hz ?_)
    | (refine wpList_store_rowTo rfl 30 (.tmp 11) (.tmp 46) rfl rfl _ zc rfl rfl 30 zc (heap_alloc_new w7 _) (show _ = some zc.size by rw [hzs]; kernel_rfl) rfl HZc.out ?_))
  rw [alloc_setRow]
  have HF := Lib.hid (HF.out.alloc (.cells zc 30))
  have HR := Lib.hid (HR.out.keeps ((Keeps.refl w7).alloc (.cells zc 30)))
  have HY := Lib.hid (HY.out.keeps ((Keeps.refl w7).alloc (.cells zc 30)))
  have HP := Lib.hid (HP.out.keeps ((Keeps.refl w7).alloc (.cells zc 30)))
  obtain ⟨W8, hW8⟩ : ∃ W8, w7.alloc (.cells zc 30) = W8 := ⟨_, rfl⟩
  rw [hW8] at HF HR HY HP
  rw [hW8]
  clear hW8
  have hc1 := run_convert_str (P := Try.prog) HR.out 39 5 9 Try.underlying39 Try.underlying5 Try.underlying9
  have hc2 := run_convert_str (P := Try.prog) HF.out.v 39 5 9 Try.underlying39 Try.underlying5 Try.underlying9
  go_upto_region 12 with (first
    | (refine wpList_load_rr rfl (.tmp 7) rfl rfl HY.out hsy ?_)
    | (go_at_call 11; (with_reducible refine (HN.out.c11 rfl _ _ HP.out).mono ?_); rintro r x3 ⟨⟨q3, m3, d3, rfl, hr3⟩, hB⟩; have HF := Lib.hid (HF.out.keep hB); have HS := Lib.hid hr3; clear hB hr3))
  have HO4 := Lib.hid (OB.new x3 5)
  have HR4 := Lib.hid (HF.out.v.keeps ((Keeps.refl x3).alloc (.cells #[] 5)))
  have HsL := Lib.hid (show ([] : List UInt8).length + b.length ≤ 140737488355328 from by have := Hl.out; simp; omega)
  go_upto_region 13 with (first
    | (at_builtin; first
      | (refine wpList_append_bytes rfl _ _ 39 rfl hel (by rfl) HO4.out (by rfl) HR4.out HsL.out (by simp) ?_; intro q5 m5 d5 x5 hn5 ho5 hg5; have HB5 := Lib.hid (show Below x3.heap.size x3 x5 from ((Below.refl _ _).alloc (Nat.le_refl _) _).trans (below_new HO4.out hg5 (by simp))); have H77 := Lib.hid (RdB_one x5 5 m Hm.out); have HO5 := Lib.hid (ho5.alloc (.cells #[.int .u8 (m : Int)] 5)); have Hs5 := Lib.hid (show x3.heap.size ≤ (x5.alloc (.cells #[.int .u8 (m : Int)] 5)).heap.size from Nat.le_trans HB5.out.size (by simp)); clear hn5 ho5 hg5)
      | (refine wpList_append_bytes rfl _ _ 39 rfl hel (by rfl) HO5.out (by rfl) H77.out (by have := Hl.out; simp; omega) Hs5.out ?_; intro q6 m6 d6 x6 hn6 ho6 hg6; have HB6 := Lib.hid ((HB5.out.alloc HB5.out.size _).trans (below_new HO5.out hg6 Hs5.out)); have HR6 := Lib.hid (by have h := ho6.rd; rw [List.nil_append] at h; exact h); have HF := Lib.hid (HF.out.keep HB6.out); have HS := Lib.hid (HS.out.keeps HB6.out.block); clear hn6 ho6 hg6))
    | (go_at_call 17; (with_reducible refine (HN.out.c17m rfl _ _ HR6.out).mono ?_); rintro r x7 ⟨rfl, hB⟩; rw [E36.out]; have HF := Lib.hid (HF.out.keep hB); have HS := Lib.hid (HS.out.keeps hB.block); clear hB)
    | (refine wpList_alloc_zero rfl 36 rfl _ hzr ?_)
    | (refine wpList_store_rowTo rfl 36 (.tmp 15) (.tmp 76) rfl rfl _ zr rfl rfl 36 zr (heap_alloc_new x7 _) (show _ = some zr.size by rw [hzrs]; kernel_rfl) rfl HZo.out ?_))
  rw [alloc_setRow]
  have HF := Lib.hid (HF.out.alloc (.cells zr 36))
  have HS := Lib.hid (HS.out.keeps ((Keeps.refl x7).alloc (.cells zr 36)))
  obtain ⟨W9, hW9⟩ : ∃ W9, x7.alloc (.cells zr 36) = W9 := ⟨_, rfl⟩
  rw [hW9] at HF HS
  rw [hW9]
  clear hW9
  have he1 := run_convert_str (P := Try.prog) HS.out 39 5 9 Try.underlying39 Try.underlying5 Try.underlying9
  have he2 := run_convert_str (P := Try.prog) HF.out.v 39 5 9 Try.underlying39 Try.underlying5 Try.underlying9
  go_wp2_with (go_at_call 9; (with_reducible refine (known9_w _).mono ?_); rintro r w9 ⟨rfl, hB⟩; have HF := Lib.hid (HF.out.keep hB); clear hB)
  go_ret
  exact ⟨rfl, HF.out.below⟩
end Go.Proofs.Ytoflehlkacofjaa
