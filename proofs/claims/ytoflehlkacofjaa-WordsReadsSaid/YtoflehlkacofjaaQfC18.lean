/- The law WordsReads. -/
import Derived.Test.YtoflehlkacofjaaQfC17
namespace Go.Proofs.Ytoflehlkacofjaa
open Go.ChangeShapes Go.WideShapes Go.ChangeAt Go.RowKit
set_option linter.unusedVariables false
/-- What the callees do. -/
structure RsC (b : List UInt8) (cc : Array Value) (ec : Int) (x : Rp) (er : Int) : Prop where
  c21 : ∀ W v, RdB W v b → Calls Try.prog 21 #[v] W fun r w' => r = .returned (.tuple #[.agg cc, .int .i64 ec]) ∧ Below W.heap.size W w'
  c23 : ∀ W v, RdB W v b → Calls Try.prog 23 #[v] W fun r w' => r = .returned (.tuple #[.agg cc, .int .i64 ec]) ∧ Below W.heap.size W w'
  c17 : ∀ W v, RdB W v b → Calls Try.prog 17 #[v] W fun r w' => (∃ cy, r = .returned (.tuple #[.agg cy, .int .i64 er]) ∧ InP x w' cy) ∧ Below W.heap.size W w'
  c24 : ∀ W v, RdB W v b → Calls Try.prog 24 #[v] W fun r w' => (∃ cy, r = .returned (.tuple #[.agg cy, .int .i64 er]) ∧ InP x w' cy) ∧ Below W.heap.size W w'
  eq : ∀ W, (binOp .eql 30 (.agg cc) (.agg cc)).run Try.prog W = .ok (.bool true) W
  sz : cc.size = 35
  one : cc.all (·.oneCell') = true
/-- What stays: the bytes, the copy, the results. -/
structure Rs (w W : World) (v v3 v20 : Value) (b : List UInt8) : Prop where
  v : RdB W v b
  c : RdB W v3 b
  l : RdB W v20 (b ++ [77])
  below : Below w.heap.size w W
theorem Rs.keep {w W W' : World} {v v3 v20 : Value} {b : List UInt8} (h : Rs w W v v3 v20 b) (hB : Below W.heap.size W W') : Rs w W' v v3 v20 b := ⟨h.v.keeps hB.block, h.c.keeps hB.block, h.l.keeps hB.block, h.below.trans (hB.mono h.below.size)⟩
theorem Rs.alloc {w W : World} {v v3 v20 : Value} {b : List UInt8} (h : Rs w W v v3 v20 b) (o : Obj) : Rs w (W.alloc o) v v3 v20 b := h.keep ((Below.refl _ _).alloc (Nat.le_refl _) o)
theorem last_cell {W : World} {p : Option Addr} {n c : Nat} {b : List UInt8} (h : RdB W (.slice p n c) (b ++ [77])) : ∃ B off, p = some ⟨B, off, none⟩ ∧ W.cell? ⟨B, off + b.length, none⟩ = some (.int .u8 77) := by
  obtain ⟨p', c', e, hp⟩ := h
  cases e
  obtain ⟨B, off, e, _, hc⟩ := hp.at (k := b.length) (by simp)
  refine ⟨B, off, e, ?_⟩
  rw [hc]
  simp
theorem head_of {W : World} {p : Option Addr} {n c : Nat} {b : List UInt8} (h : RdB W (.slice p n c) (b ++ [77])) : RdB W (.slice p b.length c) b ∧ b.length + 1 ≤ c := by
  obtain ⟨p', c', e, hp⟩ := h
  cases e
  have h1 := hp.take b.length
  rw [List.take_left' rfl] at h1
  exact ⟨⟨p, c, rfl, h1⟩, by have := hp.2.1; simpa using this⟩
theorem reads_long_w (w : World) (p : Option Addr) (c L : Nat) (hl : 20000 < L) : Calls Try.prog 6 #[.slice p L c] w fun e w' => e = .returned (.bool true) ∧ Below w.heap.size w w' := by
  have hgt : decide (20000 < (L : Int)) = true := by simp; omega
  clear hl
  go_enter Try.func6, Try.ntmps6
  go_wp2_with (go_at_call 9; (with_reducible refine (known9_w _).mono ?_); rintro r w9 ⟨rfl, hB⟩; have HB := Lib.hid hB; clear hB)
  go_ret
  exact ⟨rfl, HB.out⟩
set_option maxRecDepth 100000 in
set_option maxHeartbeats 12800000 in
theorem reads_in_w (w : World) (p : Option Addr) (c : Nat) (b : List UInt8) (cc : Array Value) (ec : Int) (x : Rp) (er : Int) (hv : RdB w (.slice p b.length c) b) (hl : b.length ≤ 20000) (HC : RsC b cc ec x er) :
    Calls Try.prog 6 #[.slice p b.length c] w fun e w' => e = .returned (.bool true) ∧ Below w.heap.size w w' := by
  have HF0 := Lib.hid (show On w w (.slice p b.length c) b from ⟨hv, Below.refl _ _⟩)
  have hgt : decide (20000 < (b.length : Int)) = false := by simp; omega
  have hsc := HC.sz
  have HOc := Lib.hid HC.one
  have HN := Lib.hid HC
  have Hl := Lib.hid hl
  clear HC hv
  have hz := hz30
  have hzr := hz36
  obtain ⟨zc, hzc⟩ : ∃ zc, zC = zc := ⟨_, rfl⟩
  obtain ⟨zr, hzr'⟩ : ∃ zr, zR = zr := ⟨_, rfl⟩
  rw [hzc] at hz
  rw [hzr'] at hzr
  have hzs : zc.size = 35 := by rw [← hzc]; rfl
  have hzrs : zr.size = 7 := by rw [← hzr']; rfl
  clear hzc hzr'
  have HO4 := Lib.hid (OB.new w 5)
  have HR4 := Lib.hid (HF0.out.v.keeps ((Keeps.refl w).alloc (.cells #[] 5)))
  obtain ⟨L, hL⟩ : ∃ L, b.length = L := ⟨_, rfl⟩
  rw [hL] at hgt HF0 hl HR4
  rw [hL]
  have HLn := Lib.hid hL
  have w1 : IntKind.i64.wrap ((L : Int) + 1) = ((L + 1 : Nat) : Int) := by rw [IntWalk.i64_in _ (by omega)]; omega
  have HsL := Lib.hid (show ([] : List UInt8).length + b.length ≤ 140737488355328 from by have := Hl.out; simp; omega)
  clear hL
  go_enter Try.func6, Try.ntmps6
  go_upto_region 4 with (first
    | (at_builtin; first
      | (refine wpList_append_bytes rfl _ _ 39 rfl hel (by rfl) HO4.out (by rfl) HR4.out HsL.out (by simp) ?_; intro p5 n5 c5 w5 hn5 ho5 hg5; have HB5 := Lib.hid (show Below w.heap.size w w5 from ((Below.refl _ _).alloc (Nat.le_refl _) _).trans (below_new HO4.out hg5 (by simp))); have H77 := Lib.hid (show RdB (w5.alloc (.cells #[.int .u8 77] 5)) (.slice (some ⟨w5.heap.size, 0, none⟩) 1 1) [77] from RdB_one w5 5 77 (by decide)); have HO5 := Lib.hid (ho5.alloc (.cells #[.int .u8 77] 5)); have Hs5 := Lib.hid (show w.heap.size ≤ (w5.alloc (.cells #[.int .u8 77] 5)).heap.size from Nat.le_trans HB5.out.size (by simp)); clear hn5 ho5 hg5)
      | (refine wpList_append_bytes rfl _ _ 39 rfl hel (by rfl) HO5.out (by rfl) H77.out (by have := Hl.out; simp; omega) Hs5.out ?_; intro p6 n6 c6 w6 hn6 ho6 hg6; have HB6 := Lib.hid ((HB5.out.alloc HB5.out.size _).trans (below_new HO5.out hg6 Hs5.out)); have HR6 := Lib.hid (show RdB w6 (.slice p6 n6 c6) (b ++ [77]) from by have h := ho6.rd; rw [List.nil_append] at h; exact h); have hd6 := head_of HR6.out; have hsl := (fun W => run_slice_hi (P := Try.prog) 39 5 Try.underlying39 1 (show (Try.prog.info? 5).map (·.size) = some 1 by kernel_rfl) p6 n6 c6 L (by have := hd6.2; have := HLn.out; omega) W); have HF := Lib.hid (show Rs w w6 (.slice p L c) (.slice p6 L c6) (.slice p6 n6 c6) b from ⟨HF0.out.v.keeps HB6.out.block, by have h := hd6.1; rw [HLn.out] at h; exact h, HR6.out, HB6.out⟩); have hcap := (show L + 1 ≤ c6 from by have := hd6.2; have := HLn.out; omega); have Hd6 := Lib.hid hd6.2; clear hn6 ho6 hg6 hd6)))
  go_upto_region 5 with (first
    | (go_at_call 21; (with_reducible refine (HN.out.c21 _ _ HF.out.c).mono ?_); rintro r x4 ⟨rfl, hB⟩; have HF := Lib.hid (HF.out.keep hB); clear hB)
    | (refine wpList_alloc_zero rfl 30 rfl _ hz ?_)
    | (refine wpList_store_rowTo rfl 30 (.tmp 4) (.tmp 27) rfl rfl _ cc rfl rfl 30 zc (heap_alloc_new x4 _) (show _ = some cc.size by rw [hsc]; kernel_rfl) (by rw [hsc, hzs]) HOc.out ?_))
  rw [alloc_setRow]
  have HX4 := Lib.hid (CcAt.new x4 cc)
  have HF := Lib.hid (HF.out.alloc (.cells cc 30))
  obtain ⟨W4, hW⟩ : ∃ W, x4.alloc (.cells cc 30) = W := ⟨_, rfl⟩
  rw [hW] at HF HX4
  rw [hW]
  clear hW
  obtain ⟨PHX4, hP⟩ : ∃ P, x4.heap.size = P := ⟨_, rfl⟩
  rw [hP] at HX4
  rw [hP]
  clear hP
  go_upto_region 6 with (first
    | (go_at_call 23; (with_reducible refine (HN.out.c23 _ _ HF.out.v).mono ?_); rintro r x5 ⟨rfl, hB⟩; have HF := Lib.hid (HF.out.keep hB); have HX4 := Lib.hid (HX4.out.keeps hB.block); clear hB)
    | (refine wpList_alloc_zero rfl 30 rfl _ hz ?_)
    | (refine wpList_store_rowTo rfl 30 (.tmp 6) (.tmp 32) rfl rfl _ cc rfl rfl 30 zc (heap_alloc_new x5 _) (show _ = some cc.size by rw [hsc]; kernel_rfl) (by rw [hsc, hzs]) HOc.out ?_))
  rw [alloc_setRow]
  have HX5 := Lib.hid (CcAt.new x5 cc)
  have HF := Lib.hid (HF.out.alloc (.cells cc 30))
  have HX4 := Lib.hid (HX4.out.keeps ((Keeps.refl x5).alloc (.cells cc 30)))
  obtain ⟨W5, hW⟩ : ∃ W, x5.alloc (.cells cc 30) = W := ⟨_, rfl⟩
  rw [hW] at HF HX5 HX4
  rw [hW]
  clear hW
  obtain ⟨PHX5, hP⟩ : ∃ P, x5.heap.size = P := ⟨_, rfl⟩
  rw [hP] at HX5
  rw [hP]
  clear hP
  go_upto_region 7 with (first
    | (go_at_call 17; (with_reducible refine (HN.out.c17 _ _ HF.out.c).mono ?_); rintro r x6 ⟨⟨cy6, rfl, hp⟩, hB⟩; have HF := Lib.hid (HF.out.keep hB); have HX4 := Lib.hid (HX4.out.keeps hB.block); have HX5 := Lib.hid (HX5.out.keeps hB.block); have HI6 := Lib.hid hp; have hs6 := hp.size; have HO6 := Lib.hid hp.one; clear hB hp)
    | (refine wpList_alloc_zero rfl 36 rfl _ hzr ?_)
    | (refine wpList_store_rowTo rfl 36 (.tmp 8) (.tmp 37) rfl rfl _ cy6 rfl rfl 36 zr (heap_alloc_new x6 _) (show _ = some cy6.size by rw [hs6]; kernel_rfl) (by rw [hs6, hzrs]) HO6.out ?_))
  rw [alloc_setRow]
  have HY6 := Lib.hid (RrAt.new x6 cy6)
  have HF := Lib.hid (HF.out.alloc (.cells cy6 36))
  have HI6 := Lib.hid (HI6.out.keeps ((Keeps.refl x6).alloc (.cells cy6 36)))
  have HX4 := Lib.hid (HX4.out.keeps ((Keeps.refl x6).alloc (.cells cy6 36)))
  have HX5 := Lib.hid (HX5.out.keeps ((Keeps.refl x6).alloc (.cells cy6 36)))
  obtain ⟨W6, hW⟩ : ∃ W, x6.alloc (.cells cy6 36) = W := ⟨_, rfl⟩
  rw [hW] at HF HY6 HX4 HX5 HI6
  rw [hW]
  clear hW
  obtain ⟨PHY6, hP⟩ : ∃ P, x6.heap.size = P := ⟨_, rfl⟩
  rw [hP] at HY6
  rw [hP]
  clear hP
  go_upto_region 8 with (first
    | (go_at_call 24; (with_reducible refine (HN.out.c24 _ _ HF.out.v).mono ?_); rintro r x7 ⟨⟨cy7, rfl, hp⟩, hB⟩; have HF := Lib.hid (HF.out.keep hB); have HX4 := Lib.hid (HX4.out.keeps hB.block); have HX5 := Lib.hid (HX5.out.keeps hB.block); have HY6 := Lib.hid (HY6.out.keeps hB.block); have HI6 := Lib.hid (HI6.out.keeps hB.block); have HI7 := Lib.hid hp; have hs7 := hp.size; have HO7 := Lib.hid hp.one; clear hB hp)
    | (refine wpList_alloc_zero rfl 36 rfl _ hzr ?_)
    | (refine wpList_store_rowTo rfl 36 (.tmp 10) (.tmp 42) rfl rfl _ cy7 rfl rfl 36 zr (heap_alloc_new x7 _) (show _ = some cy7.size by rw [hs7]; kernel_rfl) (by rw [hs7, hzrs]) HO7.out ?_))
  rw [alloc_setRow]
  have HY7 := Lib.hid (RrAt.new x7 cy7)
  have HF := Lib.hid (HF.out.alloc (.cells cy7 36))
  have HI7 := Lib.hid (HI7.out.keeps ((Keeps.refl x7).alloc (.cells cy7 36)))
  have HX4 := Lib.hid (HX4.out.keeps ((Keeps.refl x7).alloc (.cells cy7 36)))
  have HX5 := Lib.hid (HX5.out.keeps ((Keeps.refl x7).alloc (.cells cy7 36)))
  have HY6 := Lib.hid (HY6.out.keeps ((Keeps.refl x7).alloc (.cells cy7 36)))
  have HI6 := Lib.hid (HI6.out.keeps ((Keeps.refl x7).alloc (.cells cy7 36)))
  obtain ⟨W7, hW⟩ : ∃ W, x7.alloc (.cells cy7 36) = W := ⟨_, rfl⟩
  rw [hW] at HF HY7 HX4 HX5 HY6 HI6 HI7
  rw [hW]
  clear hW
  obtain ⟨PHY7, hP⟩ : ∃ P, x7.heap.size = P := ⟨_, rfl⟩
  rw [hP] at HY7
  rw [hP]
  clear hP
  have hc1 := run_convert_str (P := Try.prog) HF.out.c 39 5 9 Try.underlying39 Try.underlying5 Try.underlying9
  have hc2 := run_convert_str (P := Try.prog) HF.out.v 39 5 9 Try.underlying39 Try.underlying5 Try.underlying9
  have HSm := Lib.hid (show Calls Try.prog 16 #[.agg cy6, .agg cy7] W7 fun e w' => e = .returned (.bool true) ∧ Below W7.heap.size W7 w' from by
    obtain ⟨a1, b1, d1, rfl, h1⟩ := HI6.out
    obtain ⟨a2, b2, d2, rfl, h2⟩ := HI7.out
    exact (refsame16_w x x _ _ _ _ _ _ W7 h1 h2).mono fun e w' ⟨⟨r, he, hr⟩, hB⟩ => ⟨by rw [he, hr.2 rfl], hB⟩)
  clear hsl
  have hsl := (fun W => run_slice_hi (P := Try.prog) 39 5 Try.underlying39 1 (show (Try.prog.info? 5).map (·.size) = some 1 by kernel_rfl) p6 L c6 (L + 1) hcap W)
  have hK := Lib.hid (fun (W' : World) (hB : Below W7.heap.size W7 W') => HF.out.keep hB)
  go_wp2_with (first
    | (refine wpList_load_cc rfl (.tmp 4) rfl rfl HX4.out hsc ?_)
    | (refine wpList_load_cc rfl (.tmp 6) rfl rfl HX5.out hsc ?_)
    | (refine wpList_plain_value (v := .bool true) rfl (exec_eq30 (.tmp 44) (.tmp 45) rfl rfl rfl (HN.out.eq _)) ?_)
    | (refine wpList_load_rr rfl (.tmp 8) rfl rfl HY6.out hs6 ?_)
    | (refine wpList_load_rr rfl (.tmp 10) rfl rfl HY7.out hs7 ?_)
    | (go_at_call 16; (with_reducible refine (HSm.out).mono ?_); rintro r x8 ⟨rfl, hB⟩; have HF := Lib.hid (HF.out.keep hB); have hd1 := run_convert_str (P := Try.prog) HF.out.c 39 5 9 Try.underlying39 Try.underlying5 Try.underlying9; have hd2 := run_convert_str (P := Try.prog) HF.out.v 39 5 9 Try.underlying39 Try.underlying5 Try.underlying9; obtain ⟨BB, off, rfl, hlc⟩ := last_cell HF.out.l; rw [HLn.out] at hlc; clear hB hc1 hc2)
    | (go_at_call 9; (with_reducible refine (known9_w _).mono ?_); rintro r w9 ⟨rfl, hB⟩; have HF := Lib.hid (HF.out.keep hB); clear hB))
  go_ret
  exact ⟨rfl, HF.out.below⟩
end Go.Proofs.Ytoflehlkacofjaa
