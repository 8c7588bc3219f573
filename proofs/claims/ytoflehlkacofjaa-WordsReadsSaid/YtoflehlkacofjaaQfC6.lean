/- A reply, read: the walk of words.ReadReply, where there is no error. -/
import Derived.Test.YtoflehlkacofjaaQfC5
namespace Go.Proofs.Ytoflehlkacofjaa
open Go.ChangeShapes Go.WideShapes Go.ChangeAt Go.RowKit
set_option linter.unusedVariables false
theorem own_base {w : World} {base base' : Nat} {e : TypeId} {c : Nat} {v : Value} {n : Nat} {xs : List Value} (h : w.ownsRow base e c v n xs) (hb : base' ≤ base) : w.ownsRow base' e c v n xs := by
  refine ⟨h.1, ?_⟩
  rcases h.2 with h2 | ⟨g, cap, cur, hv, hgb, hh, r⟩
  · exact .inl h2
  · exact .inr ⟨g, cap, cur, hv, Nat.le_trans hb hgb, hh, r⟩

set_option maxRecDepth 100000 in
set_option maxHeartbeats 25600000 in
/-- Bytes of a reply without one. -/
theorem read17_ok_w (v : Value) (b : List UInt8) (w : World) (hb : RdB w v b) (hl : b.length ≤ 1000000) (hkd : (Form.small b 0 0 999).1 = 0) : Calls Try.prog 17 #[v] w (RpAns w b) := by
  obtain ⟨p, c, rfl, hpt⟩ := hb
  have HBv := Lib.hid (show RdB w (.slice p b.length c) b from ⟨p, c, rfl, hpt⟩)
  obtain ⟨zc, hzc⟩ : ∃ zc, zR = zc := ⟨_, rfl⟩
  have HBn := Lib.hid (((HBv.out.keeps ((Keeps.refl w).alloc (.cells zc 36))).keeps ((Keeps.refl _).alloc (.cells #[.slice p b.length c, .int .i64 0, .int .i64 0] 98))).keeps ((Keeps.refl _).alloc (.cells #[.pointer (some ⟨w.heap.size + 1, 0, none⟩)] 70)))
  have Hkd := Lib.hid hkd
  have Hl := Lib.hid hl
  clear hpt hkd
  have hz := hz36
  rw [hzc] at hz
  have Hzc := Lib.hid hzc
  have hzs : zc.size = 7 := by rw [← hzc]; rfl
  have HZo := Lib.hid (show zc.all (·.oneCell') = true by rw [← hzc]; exact zR_one)
  clear hzc
  have HRd := Lib.hid (show Rdr (((w.alloc (.cells zc 36)).alloc (.cells #[.slice p b.length c, .int .i64 0, .int .i64 0] 98)).alloc (.cells #[.pointer (some ⟨w.heap.size + 1, 0, none⟩)] 70)) (w.heap.size + 1) (.slice p b.length c) 0 0 from by
    unfold Rdr
    rw [Below.heap_alloc _ _ _ (by simp)]
    have := heap_alloc_new (w.alloc (.cells zc 36)) (.cells #[.slice p b.length c, .int .i64 0, .int .i64 0] 98)
    rw [heap_alloc_size] at this
    exact this)
  obtain ⟨kc, hkc⟩ : ∃ kc, kR 0 = kc := ⟨_, rfl⟩
  have hks : kc.size = 7 := by rw [← hkc]; rfl
  have HK1 := Lib.hid (show kc.all (·.oneCell') = true by rw [← hkc]; unfold kR; simp [Value.oneCell'])
  have Hkc := Lib.hid hkc
  have K0 := Lib.hid (show kc[0]? = some (.int .i64 0) by rw [← hkc]; rfl)
  clear hkc
  go_enter Try.func17, Try.ntmps17
  go_upto_region 3 with (first
    | (refine wpList_alloc_zero rfl 36 rfl _ hz ?_)
    | (go_at_call 41; (with_reducible refine (new_w p b.length c _).mono ?_); rintro r w1 ⟨rfl, rfl⟩)
    | (go_at_call 42; (with_reducible refine (small_z (w.heap.size + 1) (.slice p b.length c) b 0 0 999 999 rfl _ HRd.out HBn.out (Nat.zero_le _) hl (by decide)).mono ?_); rintro r w2 ⟨n, a0, e0, hs, rfl, hm⟩; have HS := Lib.hid hs; have HM := Lib.hid hm; obtain rfl : n = 0 := (by have h := Hkd.out; rw [hs] at h; exact h); clear hs hm)
    | (refine wpList_plain_value (v := .agg kc) rfl (by rw [← Hkc.out]; exact exec_build36 0 (.tmp 10) rfl rfl) ?_)
    | (refine wpList_store_rowTo rfl 36 (.tmp 5) (.tmp 11) rfl rfl _ kc rfl rfl 36 zc (heap_alloc_new w2 _) (show _ = some kc.size by rw [hks]; kernel_rfl) (by rw [hks, hzs]) HK1.out ?_))
  rw [alloc_setRow]
  have HC0 := Lib.hid (show RP w (w2.alloc (.cells kc 36)) (.slice p b.length c) b (w.heap.size + 1) (w.heap.size + 1 + 1) w2.heap.size a0 e0 kc from RP.begin HBv.out Hl.out (by rw [Hzc.out]; exact HM.out) HS.out kc)
  obtain ⟨W0, hW0⟩ : ∃ W0, w2.alloc (.cells kc 36) = W0 := ⟨_, rfl⟩
  rw [hW0] at HC0
  rw [hW0]
  obtain ⟨C, hC⟩ : ∃ C, w2.heap.size = C := ⟨_, rfl⟩
  rw [hC] at HC0
  rw [hC]
  obtain ⟨V, hV⟩ : ∃ V, w.heap.size + 1 + 1 = V := ⟨_, rfl⟩
  rw [hV] at HC0
  rw [hV]
  obtain ⟨R, hR⟩ : ∃ R, w.heap.size + 1 = R := ⟨_, rfl⟩
  rw [hR] at HC0
  clear hW0 hC hV hR HRd HBn HBv HM
  have k0 := (HC0.out.at 0).trans K0.out
  have v0 := HC0.out.r.var
  have HZ0 := Lib.hid (show (Form.small b 0 0 999) = (0, a0, e0) from HS.out)
  have HL0 := Lib.hid (And.intro HC0.out.lR (And.intro HC0.out.lV HC0.out.lC))
  have hkc7 := Hkc.out
  have Kall := Lib.hid (show kc = #[.int .i64 0, .int .u64 0, .int .i64 0, .int .i64 0, .slice none 0 0, .slice none 0 0, .slice none 0 0] from hkc7.symm)
  rw [Kall.out] at HC0
  clear hkc7
  have z1 := HC0.out.thaw
  go_upto_region 5 with (first
    | (go_at_call 43; (with_reducible refine (rnat_w R (.slice p b.length c) b a0 e0 _ HC0.out.r.rd HC0.out.r.bs HC0.out.r.ha HC0.out.r.hl).mono ?_); rintro r W1 ⟨n1, a1, e1, hs, rfl, hm⟩; have HS1 := Lib.hid (show s64 b a0 e0 = (n1, a1, e1) from hs); have HC1 := Lib.hid (HC0.out.moved hm (by have := s64_at (e := e0) HC0.out.r.ha; rw [HS1.out] at this; exact this)); clear hs hm; have c1 := HC1.out.at 1; have f1 := HC1.out.thaw 1; have HC1b := Lib.hid (HC1.out.set 1 (.int .u64 (n1 : Int))); have v1 := HC1b.out.r.var))
  have HP1 := Lib.hid (show RP w (W1.setCell ⟨C, 1, none⟩ (.int .u64 (n1 : Int))).drew (.slice p b.length c) b R V C a1 e1 #[.int .i64 0, .int .u64 (n1 : Int), .int .i64 0, .int .i64 0, .slice none 0 0, .slice none 0 0, .slice none 0 0] from HC1b.out.drew)
  have hv := HP1.out.r.var
  go_region_held3 (fun w' => w'.cell? ⟨V, 0, none⟩ = some (.pointer (some ⟨R, 0, none⟩))) (go_keep) ((go_at_call 44; first
    | ((with_reducible refine (rint_w R (.slice p b.length c) b a1 e1 _ HP1.out.r.rd HP1.out.r.bs HP1.out.r.ha HP1.out.r.hl).mono ?_); rintro r W2 ⟨n2, a2, e2, hs, rfl, hm⟩
       have HS2 := Lib.hid (show s64 b a1 e1 = (n2, a2, e2) from hs)
       have HP2 := Lib.hid (HP1.out.moved hm (by have := s64_at (e := e1) HP1.out.r.ha; rw [HS2.out] at this; exact this))
       have v2 := HP2.out.r.var
       clear hs hm)
    | ((with_reducible refine (rint_w R (.slice p b.length c) b a2 e2 W2 HP2.out.r.rd HP2.out.r.bs HP2.out.r.ha HP2.out.r.hl).mono ?_); rintro r W3 ⟨n3, a3, e3, hs, rfl, hm⟩
       have HS3 := Lib.hid (show s64 b a2 e2 = (n3, a3, e3) from hs)
       have HP3 := Lib.hid (HP2.out.moved hm (by have := s64_at (e := e2) HP2.out.r.ha; rw [HS3.out] at this; exact this))
       have v3 := HP3.out.r.var
       have y2 := HP3.out.at 2
       have y3 := HP3.out.at 3
       have q2 := HP3.out.thaw 2
       have q3 := HP3.out.thaw 3
       have hne := HP3.out.nVC
       have hne' := Ne.symm HP3.out.nVC
       clear hs hm)))
  obtain ⟨W4, hW4⟩ : ∃ W4, ((W3.setCell ⟨C, 2, none⟩ (.int .i64 (Form.unfold_ n2))).setCell ⟨C, 3, none⟩ (.int .i64 (Form.unfold_ n3))) = W4 := ⟨_, rfl⟩
  have HP4 := Lib.hid (show RP w W4 (.slice p b.length c) b R V C a3 e3 #[.int .i64 0, .int .u64 (n1 : Int), .int .i64 (Form.unfold_ n2), .int .i64 (Form.unfold_ n3), .slice none 0 0, .slice none 0 0, .slice none 0 0] from by rw [← hW4]; exact (HP3.out.set 2 _).set 3 _)
  rw [hW4]
  clear hW4 v1 v2 v3 y2 y3 q2 q3 hne hne' z1 k0 v0 f1 c1 hv
  have v4 := HP4.out.r.var
  have HLT := Lib.hid (show ∀ (t : Value) (e : TypeId) (cc : Nat) (xs : List Value) (n : Nat) (W W' : World), W.ownsRow W4.heap.size e cc t n xs → W.grownBy W' (some R) → W'.ownsRow W4.heap.size e cc t n xs from fun t e cc xs n W W' h hg => own_moved h hg HP4.out.sz.1)
  have HLC := Lib.hid (show ∀ (t : Value) (e : TypeId) (cc : Nat) (xs : List Value) (n : Nat) (W : World) (i : Nat) (x : Value), W.ownsRow W4.heap.size e cc t n xs → (W.setCell ⟨C, i, none⟩ x).ownsRow W4.heap.size e cc t n xs from fun t e cc xs n W i x h => own_moved h (Lib.grownBy_setCell W C i x) HP4.out.sz.2.2)
  go_upto_region 9 with (first
    | (go_at_call 45; (with_reducible refine (taken45_w HP4.out.r).mono ?_); rintro r W5 ⟨tv, ts, a4, e4, rfl, htk, hm, ho, ha4⟩; obtain ⟨q1, d1, rfl⟩ := own_form ho; have HTK := Lib.hid htk; have HC5 := Lib.hid (HP4.out.moved hm ha4); have c5 := HC5.out.at 4; have f5 := HC5.out.thaw 4; have HP5 := Lib.hid (show RP w (W5.setCell ⟨C, 4, none⟩ (.slice q1 ts.length d1)) (.slice p b.length c) b R V C a4 e4 #[.int .i64 0, .int .u64 (n1 : Int), .int .i64 (Form.unfold_ n2), .int .i64 (Form.unfold_ n3), (.slice q1 ts.length d1), .slice none 0 0, .slice none 0 0] from HC5.out.set 4 (.slice q1 ts.length d1)); have v5 := HP5.out.r.var; have HO5 := Lib.hid (HLC.out _ _ _ _ _ _ 4 (.slice q1 ts.length d1) ho); have HL5 := Lib.hid (show W4.heap.size ≤ (W5.setCell ⟨C, 4, none⟩ (.slice q1 ts.length d1)).heap.size from Nat.le_trans hm.2.size (Lib.grownBy_setCell W5 C 4 (.slice q1 ts.length d1)).size); clear htk hm ho)
    | (go_at_call 47; (((with_reducible refine (taken47_w HP5.out.r).mono ?_); rintro r W6 ⟨gv, gs, a5, e5, rfl, htk, hm, ho, ha5⟩; obtain ⟨q2, d2, rfl⟩ := own_form ho; have HGK := Lib.hid htk; have HC6 := Lib.hid (HP5.out.moved hm ha5); have c6 := HC6.out.at 5; have f6 := HC6.out.thaw 5; have HP6 := Lib.hid (show RP w (W6.setCell ⟨C, 5, none⟩ (.slice q2 gs.length d2)) (.slice p b.length c) b R V C a5 e5 #[.int .i64 0, .int .u64 (n1 : Int), .int .i64 (Form.unfold_ n2), .int .i64 (Form.unfold_ n3), (.slice q1 ts.length d1), (.slice q2 gs.length d2), .slice none 0 0] from HC6.out.set 5 (.slice q2 gs.length d2)); have v6 := HP6.out.r.var; have HO6 := Lib.hid (HLC.out _ _ _ _ _ _ 5 (.slice q2 gs.length d2) (HLT.out _ _ _ _ _ _ _ HO5.out hm.2)); have HG6 := Lib.hid (HLC.out _ _ _ _ _ _ 5 (.slice q2 gs.length d2) (own_base ho HL5.out)); have HL6 := Lib.hid (show W4.heap.size ≤ (W6.setCell ⟨C, 5, none⟩ (.slice q2 gs.length d2)).heap.size from Nat.le_trans HL5.out (Nat.le_trans hm.2.size (Lib.grownBy_setCell W6 C 5 (.slice q2 gs.length d2)).size)); clear htk hm ho)))
    | (go_at_call 48; (with_reducible refine (taken48_w HP6.out.r).mono ?_); rintro r W7 ⟨av, zs, a6, e6, rfl, htk, hm, ho, ha6⟩; obtain ⟨q3, d3, rfl⟩ := own_form ho; have HAK := Lib.hid htk; have HC7 := Lib.hid (HP6.out.moved hm ha6); have c7 := HC7.out.at 6; have f7 := HC7.out.thaw 6; have HP7 := Lib.hid (show RP w (W7.setCell ⟨C, 6, none⟩ (.slice q3 zs.length d3)) (.slice p b.length c) b R V C a6 e6 #[.int .i64 0, .int .u64 (n1 : Int), .int .i64 (Form.unfold_ n2), .int .i64 (Form.unfold_ n3), (.slice q1 ts.length d1), (.slice q2 gs.length d2), (.slice q3 zs.length d3)] from HC7.out.set 6 (.slice q3 zs.length d3)); have v7 := HP7.out.r.var; have HO7 := Lib.hid (HLC.out _ _ _ _ _ _ 6 (.slice q3 zs.length d3) (HLT.out _ _ _ _ _ _ _ HO6.out hm.2)); have HG7 := Lib.hid (HLC.out _ _ _ _ _ _ 6 (.slice q3 zs.length d3) (HLT.out _ _ _ _ _ _ _ HG6.out hm.2)); have HA7 := Lib.hid (HLC.out _ _ _ _ _ _ 6 (.slice q3 zs.length d3) (own_base ho HL6.out)); clear htk hm ho))
  have HX := Lib.hid (show RdW b ⟨0, n1, Form.unfold_ n2, Form.unfold_ n3, ts, gs, zs⟩ a6 e6 from by
    unfold RdW RdRp
    rw [HZ0.out]
    exact .inr ⟨rfl, n1, a1, e1, n2, a2, e2, n3, a3, e3, a4, e4, a5, e5, HS1.out, HS2.out, HS3.out, HTK.out, HGK.out, HAK.out, rfl, rfl, rfl, rfl⟩)
  obtain ⟨W8, hW8⟩ : ∃ W8, (W7.setCell ⟨C, 6, none⟩ (.slice q3 zs.length d3)) = W8 := ⟨_, rfl⟩
  rw [hW8] at HP7 HO7 HG7 HA7 v7
  rw [hW8]
  clear hW8 c5 c6 c7 f5 f6 f7 v4 v5 v6
  obtain ⟨cf, hcf⟩ : ∃ cf : Array Value, #[.int .i64 0, .int .u64 (n1 : Int), .int .i64 (Form.unfold_ n2), .int .i64 (Form.unfold_ n3), (.slice q1 ts.length d1), (.slice q2 gs.length d2), (.slice q3 zs.length d3)] = cf := ⟨_, rfl⟩
  rw [hcf] at HP7
  have hcs : cf.size = 7 := by rw [← hcf]; rfl
  have HCo := Lib.hid (show cf.all (·.oneCell') = true by rw [← hcf]; simp [Value.oneCell'])
  have Hcf := Lib.hid hcf
  clear hcf
  obtain ⟨d, hd⟩ : ∃ d, Form.done b.length a6 e6 = d := ⟨_, rfl⟩
  have HD := Lib.hid hd
  have HDn := Lib.hid (fun W' (h : RP w W' (.slice p b.length c) b R V C a6 e6 cf) => (show Calls Try.prog 50 #[.pointer (some ⟨R, 0, none⟩)] W' fun r w' => r = .returned (.int .i64 d) ∧ RegT.Same W' w' from by rw [← hd]; exact done_w R _ b a6 e6 W' h.r.rd h.r.bs h.r.ha))
  clear hd
  by_cases h0 : d = 0
  · subst h0
    go_wp2_with (first
      | (go_at_call 50; (with_reducible refine (HDn.out _ HP7.out).mono ?_); rintro r w8 ⟨rfl, hS⟩; have HC8 := Lib.hid (HP7.out.same hS); have HO8 := Lib.hid (own_same HO7.out hS); have HG8 := Lib.hid (own_same HG7.out hS); have HA8 := Lib.hid (own_same HA7.out hS); clear hS)
      | (refine wpList_load_rr rfl (.tmp 5) rfl rfl HC8.out.c hcs ?_)
      | (refine wpList_store_rowTo rfl 36 (.tmp 2) (.tmp 41) rfl rfl _ cf rfl rfl 36 zc (by rw [← Hzc.out]; exact HC8.out.z) (show _ = some cf.size by rw [hcs]; kernel_rfl) (by rw [hcs, hzs]) HCo.out ?_))
    obtain ⟨hend, hres, _⟩ := HC8.out.result cf
    refine bodyPost_ret (v := .tuple #[.agg cf, .int .i64 0]) (results_cell_tmp rfl _ _ w.heap.size 36 _ _ _ _ rfl rfl hres rfl Try.underlying36 (show _ = some cf.size by rw [hcs]; kernel_rfl)) rfl ?_
    have hE := HC8.out
    have hB := Nat.lt_of_lt_of_le HL0.out.1 (Nat.le_of_lt HP4.out.sz.1)
    rw [← Hcf.out] at hE ⊢
    exact RP.end_yes hE HX.out HD.out HO8.out HG8.out HA8.out hB hB hB
  · have hdn : (d != 0) = true := by simpa using h0
    have HD0 := Lib.hid (show Form.done b.length a6 e6 ≠ 0 from by rw [HD.out]; exact h0)
    clear h0
    go_wp2_with (first
      | (go_at_call 50; (with_reducible refine (HDn.out _ HP7.out).mono ?_); rintro r w8 ⟨rfl, hS⟩; have HC8 := Lib.hid (HP7.out.same hS); clear hS)
      | (refine wpList_plain_value (v := .agg zc) rfl (by rw [← Hzc.out]; exact exec_build36e rfl) ?_)
      | (refine wpList_store_rowTo rfl 36 (.tmp 2) (.tmp 40) rfl rfl _ zc rfl rfl 36 zc (by rw [← Hzc.out]; exact HC8.out.z) (show _ = some zc.size by rw [hzs]; kernel_rfl) rfl HZo.out ?_))
    obtain ⟨hend, hres, _⟩ := HC8.out.result zc
    refine bodyPost_ret (v := .tuple #[.agg zc, .int .i64 5]) (results_cell_tmp rfl _ _ w.heap.size 36 _ _ _ _ rfl rfl hres rfl Try.underlying36 (show _ = some zc.size by rw [hzs]; kernel_rfl)) rfl ?_
    have hE := RP.end_no HC8.out HX.out HD0.out
    rw [Hzc.out] at hE
    exact hE
theorem read17_w (v : Value) (b : List UInt8) (w : World) (hb : RdB w v b) (hl : b.length ≤ 1000000) : Calls Try.prog 17 #[v] w (RpAns w b) := by
  by_cases h : (Form.small b 0 0 999).1 = 0
  · exact read17_ok_w v b w hb hl h
  · exact read17_err_w v b w hb hl _ rfl h
end Go.Proofs.Ytoflehlkacofjaa
