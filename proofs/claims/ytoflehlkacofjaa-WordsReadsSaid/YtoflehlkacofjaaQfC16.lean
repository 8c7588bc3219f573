/- A command, read by the document: the walk. -/
import Derived.Test.YtoflehlkacofjaaQfC15
namespace Go.Proofs.Ytoflehlkacofjaa
open Go.ChangeShapes Go.WideShapes Go.ChangeAt Go.RowKit
set_option linter.unusedVariables false
theorem RF.there {w W : World} {b : List UInt8} {g N C : Nat} {s : Cm.St} (h : RF w W b g N C s) (i n : Nat) (hi : i + n ≤ 35) : W.there C i n := fun j hj => by
  have hc := h.at (i + j)
  have hsz : s.1.cells.size = 35 := rfl
  rw [Array.getElem?_eq_getElem (by omega)] at hc
  exact ⟨by rw [hc]; rfl, h.thaw (i + j)⟩
/-- The document's reader is laid. -/
theorem ref_start {w : World} {v : Value} {b : List UInt8} (hb : RdB w v b) : RAt ((w.alloc (.cells zC 30)).alloc (.cells #[v, .int .i64 0] 92)) (w.heap.size + 1) 92 b 0 0 w.heap.size := by
  refine ⟨v, ?_, ?_, fun x hx => hb.off hx⟩
  · unfold RRd
    have := heap_alloc_new (w.alloc (.cells zC 30)) (.cells #[v, .int .i64 0] 92)
    rw [heap_alloc_size] at this
    exact this
  · rw [List.drop_zero]
    exact (hb.keeps ((Keeps.refl w).alloc _)).keeps ((Keeps.refl _).alloc _)
theorem RF.begin {w W1 : World} {v : Value} {b : List UInt8} {n a : Nat} {e : Int} (hb : RdB w v b) (hl : b.length ≤ 1000000)
    (hm : RM ((w.alloc (.cells zC 30)).alloc (.cells #[v, .int .i64 0] 92)) W1 (w.heap.size + 1) 92 b a e w.heap.size) (hs : Form.small b 0 0 14 = (n, a, e)) :
    RF w (W1.alloc (.cells (kC n) 30)) b (w.heap.size + 1) w.heap.size W1.heap.size (Cm.rd0 b) := by
  obtain ⟨h1, h2⟩ := hm
  have hsz := h2.size
  simp only [heap_alloc_size] at hsz
  have hB3 : Below w.heap.size w ((w.alloc (.cells zC 30)).alloc (.cells #[v, .int .i64 0] 92)) := ((Below.refl w.heap.size w).alloc (Nat.le_refl _) _).alloc (by rw [heap_alloc_size]; omega) _
  have hB : Below w.heap.size w W1 := hB3.grown h2 hB3.size (fun k e => by cases e; omega)
  have e0 : Cm.rd0 b = (Cm.start n, a, e) := by unfold Cm.rd0; rw [hs]
  have hn : n ≤ 14 := by have := small_top b 0 0 14; rw [hs] at this; exact this
  have ha : a ≤ b.length := by have := small_at (b := b) (a := 0) (e := 0) (most := 14) (Nat.zero_le _); rw [hs] at this; exact this
  have o2 : ((w.alloc (.cells zC 30)).alloc (.cells #[v, .int .i64 0] 92)).heap[w.heap.size]? = some (.cells zC 30) := by
    rw [Below.heap_alloc _ _ _ (by simp only [heap_alloc_size]; omega)]
    exact heap_alloc_new w _
  have k2 : W1.heap[w.heap.size]? = some (.cells zC 30) := by
    rw [h2.block _ (Array.getElem?_eq_some_iff.1 o2).1 (by simp)]; exact o2
  have hk : Keeps W1 (W1.alloc (.cells (kC n) 30)) := (Keeps.refl W1).alloc _
  rw [e0]
  refine ⟨h1.keeps hk, ?_, (hk _ (Array.getElem?_eq_some_iff.1 k2).1).trans k2, ha, hl, Cm.start_ok n (by omega), by omega, Nat.le_refl _, by omega, by omega, hB.alloc hB.size _⟩
  exact CcAt.new W1 (kC n)
theorem rest_fold (b : List UInt8) (f : List UInt8) (s : Cm.St) (k : Nat) (h : k < f.length) : (f.take (k + 1)).foldl (Cm.rdR b) s = Cm.rdR b ((f.take k).foldl (Cm.rdR b) s) (f[k]'h) := by
  rw [List.take_succ_eq_append_getElem h, List.foldl_append]; rfl
set_option maxRecDepth 100000 in
set_option maxHeartbeats 25600000 in
theorem refread23_w (v : Value) (b : List UInt8) (w : World) (hb : RdB w v b) (hl : b.length ≤ 1000000) : Calls Try.prog 23 #[v] w (RdAns w b) := by
  obtain ⟨p, c, rfl⟩ := hb.form_
  have HBv := Lib.hid hb
  have HSt := Lib.hid (ref_start hb)
  have Hl := Lib.hid hl
  obtain ⟨zc, hzc⟩ : ∃ zc, zC = zc := ⟨_, rfl⟩
  have hz := hz30
  rw [hzc] at hz HSt
  have hzs : zc.size = 35 := by rw [← hzc]; rfl
  have HZo := Lib.hid (show zc.all (·.oneCell') = true by rw [← hzc]; exact zC_one)
  have Hzc := Lib.hid hzc
  clear hzc hb
  have hk14 := small_top b 0 0 14
  obtain ⟨kd, hkd⟩ : ∃ kd, (Form.small b 0 0 14).1 = kd := ⟨_, rfl⟩
  rw [hkd] at hk14
  have Hkd := Lib.hid hkd
  have hwk : IntKind.u8.wrap (kd : Int) = (kd : Int) := IntWalk.u8_in _ (by omega)
  obtain ⟨kc, hkc⟩ : ∃ kc, kC kd = kc := ⟨_, rfl⟩
  have hks : kc.size = 35 := by rw [← hkc]; rfl
  have HK1 := Lib.hid (show kc.all (·.oneCell') = true by rw [← hkc]; exact cmc_one ..)
  have HK0 := Lib.hid (show kc[0]? = some (.int .u8 (kd : Int)) by rw [← hkc]; rfl)
  have Hkc := Lib.hid hkc
  have HFl := Lib.hid (fun W => fields55_w kd W)
  clear hkc hkd
  go_enter Try.func23, Try.ntmps23
  go_upto_region 3 with (first
    | (refine wpList_alloc_zero rfl 30 rfl _ hz ?_)
    | (go_at_call 65; (with_reducible refine (refsmall_z (w.heap.size + 1) 92 b 0 0 w.heap.size 14 14 rfl _ HSt.out (Nat.le_succ _) (Nat.zero_le _) hl (by decide)).mono ?_); rintro r w2 ⟨n, a0, e0, hs, rfl, hm⟩; have HS := Lib.hid hs; have HM := Lib.hid hm; obtain rfl : n = kd := (by have h := Hkd.out; rw [hs] at h; exact h); clear hs hm)
    | (refine wpList_plain_value (v := .agg kc) rfl (by rw [← Hkc.out]; exact exec_build30 n (.tmp 13) rfl rfl) ?_)
    | (refine wpList_store_rowTo rfl 30 (.tmp 5) (.tmp 14) rfl rfl _ kc rfl rfl 30 zc (heap_alloc_new w2 _) (show _ = some kc.size by rw [hks]; kernel_rfl) (by rw [hks, hzs]) HK1.out ?_))
  rw [alloc_setRow]
  have HC0 := Lib.hid (show RF w (w2.alloc (.cells kc 30)) b (w.heap.size + 1) w.heap.size w2.heap.size (Cm.rd0 b) from by rw [← Hkc.out]; exact RF.begin HBv.out Hl.out (by rw [Hzc.out]; exact HM.out) HS.out)
  have x0 := (CcAt.new w2 kc).at 0 |>.trans HK0.out
  obtain ⟨W0, hW0⟩ : ∃ W0, w2.alloc (.cells kc 30) = W0 := ⟨_, rfl⟩
  rw [hW0] at HC0 x0
  rw [hW0]
  obtain ⟨C, hC⟩ : ∃ C, w2.heap.size = C := ⟨_, rfl⟩
  rw [hC] at HC0 x0
  rw [hC]
  obtain ⟨g, hg⟩ : ∃ g, w.heap.size + 1 = g := ⟨_, rfl⟩
  rw [hg] at HC0
  rw [hg]
  have Hrr := Lib.hid (show Cm.rr b = (flds n).foldl (Cm.rdR b) (Cm.rd0 b) from by unfold Cm.rr; rw [HS.out])
  clear hW0 hC hg HSt HM HS
  have Hmem := Lib.hid (flds_mem n)
  have Hlen := Lib.hid (flds_len n)
  obtain ⟨fs, hfs⟩ : ∃ fs : ByteArray, (⟨(flds n).toArray⟩ : ByteArray) = fs := ⟨_, rfl⟩
  have hszf : fs.size = (flds n).length := by rw [← hfs]; simp [ByteArray.size]
  have Hget := Lib.hid (show ∀ (k : Nat) (h : k < fs.size) (h2 : k < (flds n).length), fs[k]'h = (flds n)[k]'h2 from fun k h h2 => by subst hfs; rfl)
  rw [hfs] at HFl
  clear hfs
  generalize flds n = f at *
  obtain ⟨s0, hs0⟩ : ∃ s, Cm.rd0 b = s := ⟨_, rfl⟩
  rw [hs0] at HC0 Hrr
  clear hs0
  go_upto_region 4 with (go_at_call 55; (with_reducible refine (HFl.out _).mono ?_); rintro r w3 ⟨rfl, rfl⟩)
  go_wp2
  clear x0 HFl
  go_loopw [7] (fun i wr => ∃ k : Nat, k ≤ f.length ∧ i = .int .i64 (k : Int) ∧ RF w wr b g w.heap.size C ((f.take k).foldl (Cm.rdR b) s0)) (fun i _ => f.length - (intOf i).toNat)
  case atStart => exact ⟨0, Nat.zero_le _, rfl, HC0.out⟩
  case round =>
    clear HC0
    obtain ⟨k, hk, rfl, hI⟩ := hrel
    have hl10 := Hlen.out
    by_cases hlt : k < f.length
    · have hgt := Hget.out k (by omega) hlt
      have Hst := Lib.hid (rest_fold b f s0 k hlt)
      have hmem := Hmem.out _ (List.getElem_mem hlt)
      obtain ⟨y, hy⟩ : ∃ y, f[k]'hlt = y := ⟨_, rfl⟩
      rw [hy] at hgt Hst hmem
      clear hy
      obtain ⟨st, hst⟩ : ∃ st, (f.take k).foldl (Cm.rdR b) s0 = st := ⟨_, rfl⟩
      rw [hst] at hI Hst
      have HI := Lib.hid hI
      clear hst hI
      obtain ⟨sk, ak, ek⟩ := st
      rcases hmem with rfl | rfl | rfl | rfl | rfl | rfl | rfl | rfl | rfl | rfl
      · go_wp2_with (go_at_call 65; (with_reducible refine (refsmall_z g 92 b ak ek w.heap.size 4294967295 4294967295 rfl _ HI.out.at_ HI.out.hg HI.out.ha HI.out.hl (by decide)).mono ?_); rintro r w5 ⟨n2, a2, e2, hs, rfl, hm⟩; have hwn : IntKind.u32.wrap (n2 : Int) = (n2 : Int) := IntWalk.u32_in _ (by have h := small_le2 (s := (sk, ak, ek)) hs; omega); have HM5 := Lib.hid (HI.out.nums hs hm); have y5 := (HM5.out.at 1).trans (show _ = some (Value.int .u32 (sk.account : Int)) from rfl); have z5 := HM5.out.thaw 1; have HN5 := Lib.hid (HI.out.l97 hs hm); clear hs hm)
        go_roundw
        case rel => exact ⟨k + 1, hlt, by go_num, by rw [Hst.out]; exact HN5.out⟩
        case measure => simp [intOf]; omega
      · go_wp2_with (go_at_call 65; (with_reducible refine (refsmall_z g 92 b ak ek w.heap.size 4294967295 4294967295 rfl _ HI.out.at_ HI.out.hg HI.out.ha HI.out.hl (by decide)).mono ?_); rintro r w5 ⟨n2, a2, e2, hs, rfl, hm⟩; have hwn : IntKind.u32.wrap (n2 : Int) = (n2 : Int) := IntWalk.u32_in _ (by have h := small_le2 (s := (sk, ak, ek)) hs; omega); have HM5 := Lib.hid (HI.out.nums hs hm); have y5 := (HM5.out.at 2).trans (show _ = some (Value.int .u32 (sk.contract : Int)) from rfl); have z5 := HM5.out.thaw 2; have HN5 := Lib.hid (HI.out.l99 hs hm); clear hs hm)
        go_roundw
        case rel => exact ⟨k + 1, hlt, by go_num, by rw [Hst.out]; exact HN5.out⟩
        case measure => simp [intOf]; omega
      · go_wp2_with (go_at_call 66; (with_reducible refine (refrnat_w g 92 b ak ek w.heap.size _ HI.out.at_ HI.out.hg HI.out.ha HI.out.hl).mono ?_); rintro r w5 ⟨n2, a2, e2, hs, rfl, hm⟩; have HM5 := Lib.hid (HI.out.nums hs hm); have y5 := (HM5.out.at 3).trans (show _ = some (Value.int .u64 (sk.number : Int)) from rfl); have z5 := HM5.out.thaw 3; have HN5 := Lib.hid (HI.out.l110 hs hm); clear hs hm)
        go_roundw
        case rel => exact ⟨k + 1, hlt, by go_num, by rw [Hst.out]; exact HN5.out⟩
        case measure => simp [intOf]; omega
      · go_wp2_with (go_at_call 67; (with_reducible refine (refrint_w g 92 b ak ek w.heap.size _ HI.out.at_ HI.out.hg HI.out.ha HI.out.hl).mono ?_); rintro r w5 ⟨n2, a2, e2, hs, rfl, hm⟩; have HM5 := Lib.hid (HI.out.nums hs hm); have y5 := (HM5.out.at 4).trans (show _ = some (Value.int .i64 sk.amount) from rfl); have z5 := HM5.out.thaw 4; have HN5 := Lib.hid (HI.out.l109 hs hm); clear hs hm)
        go_roundw
        case rel => exact ⟨k + 1, hlt, by go_num, by rw [Hst.out]; exact HN5.out⟩
        case measure => simp [intOf]; omega
      · go_wp2_with (first
          | (go_at_call 68; (with_reducible refine (reftake68_w g 92 b ak ek w.heap.size _ HI.out.at_ HI.out.hg HI.out.ha HI.out.hl).mono ?_); rintro r w5 ⟨rfl, hm⟩; have HM1 := Lib.hid (HI.out.moved hm (Form.rst_le b ak ek HI.out.ha 25)); have hC := HI.out.l115 hm; dsimp only at hC; obtain ⟨sc, hsc⟩ : ∃ sc, (Sp.rgot b ak ek).cells = sc := ⟨_, rfl⟩; have Hsc := Lib.hid (And.intro hsc (show (Try.prog.info? 27).map (·.size) = some sc.size ∧ sc.size = 25 ∧ sc.all (·.oneCell') = true from by rw [← hsc]; exact ⟨by kernel_rfl, rfl, Go.Proofs.Ytoflehlkacofjaa.cells_one _⟩)); rw [hsc] at hC; rw [hsc]; clear hsc hm; have HTh := Lib.hid (show w5.there C 5 sc.size from by rw [Hsc.out.2.2.1]; exact HM1.out.there 5 25 (by decide)); have HN5 := Lib.hid hC; clear hC)
          | (refine wpList_store_mid rfl 27 (.tmp 53) (.tmp 52) rfl _ _ sc rfl rfl HTh.out Hsc.out.2.1 Hsc.out.2.2.2 ?_))
        go_roundw
        case rel => exact ⟨k + 1, hlt, by go_num, by rw [Hst.out]; exact HN5.out⟩
        case measure => simp [intOf]; omega
      · go_wp2_with (go_at_call 69; (with_reducible refine (refrflag_w g 92 b ak ek w.heap.size _ HI.out.at_ HI.out.hg HI.out.ha HI.out.hl).mono ?_); rintro r w5 ⟨f2, a2, e2, hs, rfl, hm⟩; have HM5 := Lib.hid (HI.out.flgs hs hm); have y5 := (HM5.out.at 30).trans (show _ = some (Value.bool sk.on) from rfl); have z5 := HM5.out.thaw 30; have HN5 := Lib.hid (HI.out.l111 hs hm); clear hs hm)
        go_roundw
        case rel => exact ⟨k + 1, hlt, by go_num, by rw [Hst.out]; exact HN5.out⟩
        case measure => simp [intOf]; omega
      · go_wp2_with (go_at_call 69; (with_reducible refine (refrflag_w g 92 b ak ek w.heap.size _ HI.out.at_ HI.out.hg HI.out.ha HI.out.hl).mono ?_); rintro r w5 ⟨f2, a2, e2, hs, rfl, hm⟩; have HM5 := Lib.hid (HI.out.flgs hs hm); have y5 := (HM5.out.at 31).trans (show _ = some (Value.bool sk.buy) from rfl); have z5 := HM5.out.thaw 31; have HN5 := Lib.hid (HI.out.l98 hs hm); clear hs hm)
        go_roundw
        case rel => exact ⟨k + 1, hlt, by go_num, by rw [Hst.out]; exact HN5.out⟩
        case measure => simp [intOf]; omega
      · go_wp2_with (go_at_call 65; (with_reducible refine (refsmall_z g 92 b ak ek w.heap.size 255 255 rfl _ HI.out.at_ HI.out.hg HI.out.ha HI.out.hl (by decide)).mono ?_); rintro r w5 ⟨n2, a2, e2, hs, rfl, hm⟩; have hwn : IntKind.u8.wrap (n2 : Int) = (n2 : Int) := IntWalk.u8_in _ (by have h := small_le2 (s := (sk, ak, ek)) hs; omega); have HM5 := Lib.hid (HI.out.nums hs hm); have y5 := (HM5.out.at 32).trans (show _ = some (Value.int .u8 (sk.as_ : Int)) from rfl); have z5 := HM5.out.thaw 32; have HN5 := Lib.hid (HI.out.l107 hs hm); clear hs hm)
        go_roundw
        case rel => exact ⟨k + 1, hlt, by go_num, by rw [Hst.out]; exact HN5.out⟩
        case measure => simp [intOf]; omega
      · go_wp2_with (go_at_call 67; (with_reducible refine (refrint_w g 92 b ak ek w.heap.size _ HI.out.at_ HI.out.hg HI.out.ha HI.out.hl).mono ?_); rintro r w5 ⟨n2, a2, e2, hs, rfl, hm⟩; have HM5 := Lib.hid (HI.out.nums hs hm); have y5 := (HM5.out.at 33).trans (show _ = some (Value.int .i64 sk.price) from rfl); have z5 := HM5.out.thaw 33; have HN5 := Lib.hid (HI.out.l112 hs hm); clear hs hm)
        go_roundw
        case rel => exact ⟨k + 1, hlt, by go_num, by rw [Hst.out]; exact HN5.out⟩
        case measure => simp [intOf]; omega
      · go_wp2_with (go_at_call 67; (with_reducible refine (refrint_w g 92 b ak ek w.heap.size _ HI.out.at_ HI.out.hg HI.out.ha HI.out.hl).mono ?_); rintro r w5 ⟨n2, a2, e2, hs, rfl, hm⟩; have HM5 := Lib.hid (HI.out.nums hs hm); have y5 := (HM5.out.at 34).trans (show _ = some (Value.int .i64 sk.qty) from rfl); have z5 := HM5.out.thaw 34; have HN5 := Lib.hid (HI.out.l113 hs hm); clear hs hm)
        go_roundw
        case rel => exact ⟨k + 1, hlt, by go_num, by rw [Hst.out]; exact HN5.out⟩
        case measure => simp [intOf]; omega
    · have hq2 : k = f.length := by omega
      subst hq2
      rw [List.take_length, ← Hrr.out] at hI
      have HI := Lib.hid hI
      clear hI Hget Hmem Hlen
      obtain ⟨st, hst⟩ : ∃ st, Cm.rr b = st := ⟨_, rfl⟩
      have HRd := Lib.hid (Cm.rr_rd b)
      rw [hst] at HI HRd
      clear hst
      obtain ⟨sk, ak, ek⟩ := st
      obtain ⟨cf, hcf⟩ : ∃ cf, sk.cells = cf := ⟨_, rfl⟩
      have HCc := Lib.hid (show ∀ W, RF w W b g w.heap.size C (sk, ak, ek) → CcAt W C cf from fun W h => by rw [← hcf]; exact h.c)
      have hcs : cf.size = 35 := by rw [← hcf]; rfl
      have HCo := Lib.hid (show cf.all (·.oneCell') = true by rw [← hcf]; exact Cm.cells_one _)
      have Hok := Lib.hid HI.out.ok
      have HMy := Lib.hid (fun W => (show Calls Try.prog 20 #[.agg cf] W fun e w' => e = .returned (.bool sk.mayB) ∧ Below W.heap.size W w' from by rw [← hcf]; exact refmay20_w sk Hok.out W))
      have HFo := Lib.hid (fun W => (show Calls Try.prog 22 #[.agg cf] W _ from by rw [← hcf]; exact refcmd22_w sk Hok.out W))
      have Hcf := Lib.hid hcf
      have HCz := Lib.hid (show ∀ W, RF w W b g w.heap.size C (sk, ak, ek) → W.heap[w.heap.size]? = some (.cells zc 30) from fun W h => by rw [← Hzc.out]; exact h.rz)
      clear hcf
      obtain ⟨d, hd⟩ : ∃ d, Form.done b.length ak ek = d := ⟨_, rfl⟩
      have HD := Lib.hid hd
      have HDn := Lib.hid (fun W (h : RF w W b g w.heap.size C (sk, ak, ek)) => (show Calls Try.prog 70 #[.pointer (some ⟨g, 0, none⟩)] W fun r w' => r = .returned (.int .i64 d) ∧ Below W.heap.size W w' from by rw [← hd]; exact (refrdone_w g 92 b ak ek w.heap.size W h.at_ h.ha h.hl).mono fun e w' ⟨h1, h2⟩ => ⟨h1, by subst h2; exact Below.refl _ _⟩))
      clear hd
      have HQ := Lib.hid (fun (W : World) (hR : RegT.Grow wr.drew W) => HI.out.keep ((Below.refl _ _).drew.trans hR))
      have HBw := Lib.hid (fun (W : World) (hR : RegT.Grow wr.drew W) => HBv.out.keeps (show Keeps w W from (HI.out.below.trans (((Below.refl wr.heap.size wr).drew.trans hR).mono HI.out.below.size)).block))
      by_cases h0 : d = 0
      · subst h0
        have HRs := Lib.hid (show (sk, ak, ek) = Cm.rd b from HRd.out.2 (done_zero HD.out).1)
        cases hm : sk.mayB with
        | true =>
          have HMt := Lib.hid hm
          rw [hm] at HMy
          have HFm := Lib.hid (show sk.form = b from by
            have hok : Cm.rdOk b = true := by unfold Cm.rdOk; rw [← HRs.out]; dsimp only; rw [hm, HD.out]; rfl
            have h := (Cm.rd_good b hok).1
            rw [← HRs.out] at h
            exact h)
          clear hm
          go_wp2_with fail
          apply RegT.wp_region_T rfl 98 16 rfl (by kernel_rfl) RegT.Grow RegT.Grow.refl RegT.Grow.trans
          · apply RegT.T_pure rfl rfl rfl
            · intro W hR; clear hR; go_simp; rfl
            simp only [List.set_cons_succ, List.set_cons_zero, Nat.reduceAdd]
            apply RegT.T_const rfl rfl rfl (.int .i64 0) (fun _ _ h => h)
            · intro W hR hf
              have Hc := Lib.hid (HDn.out W (HQ.out W hR))
              clear hR hf
              go_simp
              exact RegT.OpOK_enter Hc.out (fun e w' h => ⟨_, h.1, rfl, h.2⟩)
            simp only [List.set_cons_succ, List.set_cons_zero, Nat.reduceAdd]
            apply RegT.T_pure (v := .bool false) rfl rfl rfl
            · intro W hR; clear hR; go_simp
            simp only [List.set_cons_succ, List.set_cons_zero, Nat.reduceAdd]
            apply RegT.T_pure (v := .bool false) rfl rfl rfl
            · intro W hR; clear hR; go_simp
            simp only [List.set_cons_succ, List.set_cons_zero, Nat.reduceAdd]
            apply RegT.T_pure rfl rfl rfl
            · exact fun W hR => load_cc (.tmp 5) rfl rfl (HCc.out _ (HQ.out W hR)) hcs
            simp only [List.set_cons_succ, List.set_cons_zero, Nat.reduceAdd]
            apply RegT.T_const rfl rfl rfl (.bool true) (fun _ _ h => h)
            · intro W hR hf
              have Hc := Lib.hid (HMy.out W)
              clear hR hf
              go_simp
              exact RegT.OpOK_enter Hc.out (fun e w' h => ⟨_, h.1, rfl, h.2⟩)
            simp only [List.set_cons_succ, List.set_cons_zero, Nat.reduceAdd]
            apply RegT.T_pure (v := .bool false) rfl rfl rfl
            · intro W hR; clear hR; go_simp
            simp only [List.set_cons_succ, List.set_cons_zero, Nat.reduceAdd]
            apply RegT.T_pure (v := .bool false) rfl rfl rfl
            · intro W hR; clear hR; go_simp
            simp only [List.set_cons_succ, List.set_cons_zero, Nat.reduceAdd]
            apply RegT.T_pure (v := .bool false) rfl rfl rfl
            · intro W hR; clear hR; go_simp
            simp only [List.set_cons_succ, List.set_cons_zero, Nat.reduceAdd]
            apply RegT.T_pure rfl rfl rfl
            · exact fun W hR => load_cc (.tmp 5) rfl rfl (HCc.out _ (HQ.out W hR)) hcs
            simp only [List.set_cons_succ, List.set_cons_zero, Nat.reduceAdd]
            apply RegT.T_predC rfl rfl rfl 11 (fun v w => RdB w v b) (fun _ _ h => h) (fun v x y hR h => RdB.keeps h hR.block)
            · intro W hR hf
              have Hc := Lib.hid (HFo.out W)
              clear hR hf
              go_simp
              exact RegT.OpOK_enter Hc.out (fun e w' ⟨p, k, c, he, hk, ho, hB⟩ => ⟨_, he, by have h := ho.rd; rw [HFm.out] at h; exact h, hB⟩)
            intro v15
            simp only [List.set_cons_succ, List.set_cons_zero, Nat.reduceAdd]
            apply RegT.T_const rfl rfl rfl (.string ⟨b.toArray⟩) (fun _ _ h => h)
            · intro W hR hf
              have hb := hf _ (.head _) (by kernel_rfl) (.inr rfl)
              have hc := run_convert_str (P := Try.prog) hb 39 5 9 Try.underlying39 Try.underlying5 Try.underlying9
              clear hR hf hb
              go_simp
              exact RegT.OpOK_value ⟨rfl, Below.refl _ _⟩
            simp only [List.set_cons_succ, List.set_cons_zero, Nat.reduceAdd]
            apply RegT.T_pure rfl rfl rfl
            · intro W hR; clear hR; go_simp; rfl
            simp only [List.set_cons_succ, List.set_cons_zero, Nat.reduceAdd]
            apply RegT.T_pure (v := .string ⟨b.toArray⟩) rfl rfl rfl
            · intro W hR
              have hc := run_convert_str (P := Try.prog) (HBw.out W hR) 39 5 9 Try.underlying39 Try.underlying5 Try.underlying9
              clear hR
              go_simp
            simp only [List.set_cons_succ, List.set_cons_zero, Nat.reduceAdd]
            apply RegT.T_pure (v := .bool false) rfl rfl rfl
            · intro W hR; clear hR; go_simp
            simp only [List.set_cons_succ, List.set_cons_zero, Nat.reduceAdd]
            apply RegT.T_pure (v := .bool false) rfl rfl rfl
            · intro W hR; clear hR; go_simp
            simp only [List.set_cons_succ, List.set_cons_zero, Nat.reduceAdd]
            refine RegT.T_end rfl (fun W5 hR hf => ?_)
            have HI5 := Lib.hid (HQ.out W5 hR)
            clear hR hf HQ HBw
            go_wp2_with (first
              | (refine wpList_load_cc rfl (.tmp 5) rfl rfl (HCc.out _ HI5.out) hcs ?_)
              | (refine wpList_store_rowTo rfl 30 (.tmp 2) (.tmp 97) rfl rfl _ cf rfl rfl 30 zc (HCz.out _ HI5.out) (show _ = some cf.size by rw [hcs]; kernel_rfl) (by rw [hcs, hzs]) HCo.out ?_))
            obtain ⟨hend, hres⟩ := HI5.out.result cf
            refine bodyPost_ret (v := .tuple #[.agg cf, .int .i64 0]) (results_cell_tmp rfl _ _ w.heap.size 30 _ _ _ _ rfl rfl hres rfl Try.underlying30 (show _ = some cf.size by rw [hcs]; kernel_rfl)) rfl ?_
            have ha := rdAns_yes HRs.out.symm HD.out HMt.out hend
            dsimp only at ha
            rw [Hcf.out] at ha
            exact ha
          · rfl
          · kernel_rfl
        | false =>
          have HNo := Lib.hid (show Form.done b.length (Cm.rd b).2.1 (Cm.rd b).2.2 ≠ 0 ∨ (Cm.rd b).1.mayB = false from .inr (by rw [← HRs.out]; exact hm))
          rw [hm] at HMy
          clear hm
          go_wp2_with fail
          apply RegT.wp_region_T rfl 98 16 rfl (by kernel_rfl) RegT.Grow RegT.Grow.refl RegT.Grow.trans
          · apply RegT.T_pure rfl rfl rfl
            · intro W hR; clear hR; go_simp; rfl
            simp only [List.set_cons_succ, List.set_cons_zero, Nat.reduceAdd]
            apply RegT.T_const rfl rfl rfl (.int .i64 0) (fun _ _ h => h)
            · intro W hR hf
              have Hc := Lib.hid (HDn.out W (HQ.out W hR))
              clear hR hf
              go_simp
              exact RegT.OpOK_enter Hc.out (fun e w' h => ⟨_, h.1, rfl, h.2⟩)
            simp only [List.set_cons_succ, List.set_cons_zero, Nat.reduceAdd]
            apply RegT.T_pure (v := .bool false) rfl rfl rfl
            · intro W hR; clear hR; go_simp
            simp only [List.set_cons_succ, List.set_cons_zero, Nat.reduceAdd]
            apply RegT.T_pure (v := .bool false) rfl rfl rfl
            · intro W hR; clear hR; go_simp
            simp only [List.set_cons_succ, List.set_cons_zero, Nat.reduceAdd]
            apply RegT.T_pure rfl rfl rfl
            · exact fun W hR => load_cc (.tmp 5) rfl rfl (HCc.out _ (HQ.out W hR)) hcs
            simp only [List.set_cons_succ, List.set_cons_zero, Nat.reduceAdd]
            apply RegT.T_const rfl rfl rfl (.bool false) (fun _ _ h => h)
            · intro W hR hf
              have Hc := Lib.hid (HMy.out W)
              clear hR hf
              go_simp
              exact RegT.OpOK_enter Hc.out (fun e w' h => ⟨_, h.1, rfl, h.2⟩)
            simp only [List.set_cons_succ, List.set_cons_zero, Nat.reduceAdd]
            apply RegT.T_pure (v := .bool true) rfl rfl rfl
            · intro W hR; clear hR; go_simp
            simp only [List.set_cons_succ, List.set_cons_zero, Nat.reduceAdd]
            apply RegT.T_pure (v := .bool true) rfl rfl rfl
            · intro W hR; clear hR; go_simp
            simp only [List.set_cons_succ, List.set_cons_zero, Nat.reduceAdd]
            apply RegT.T_pure (v := .bool true) rfl rfl rfl
            · intro W hR; clear hR; go_simp
            simp only [List.set_cons_succ, List.set_cons_zero, Nat.reduceAdd]
            apply RegT.T_skip rfl rfl rfl
            simp only [List.set_cons_succ, List.set_cons_zero, Nat.reduceAdd]
            apply RegT.T_skip rfl rfl rfl
            simp only [List.set_cons_succ, List.set_cons_zero, Nat.reduceAdd]
            apply RegT.T_skip rfl rfl rfl
            simp only [List.set_cons_succ, List.set_cons_zero, Nat.reduceAdd]
            apply RegT.T_skip rfl rfl rfl
            simp only [List.set_cons_succ, List.set_cons_zero, Nat.reduceAdd]
            apply RegT.T_skip rfl rfl rfl
            simp only [List.set_cons_succ, List.set_cons_zero, Nat.reduceAdd]
            apply RegT.T_skip rfl rfl rfl
            simp only [List.set_cons_succ, List.set_cons_zero, Nat.reduceAdd]
            apply RegT.T_pure (v := .bool true) rfl rfl rfl
            · intro W hR; clear hR; go_simp
            simp only [List.set_cons_succ, List.set_cons_zero, Nat.reduceAdd]
            refine RegT.T_end rfl (fun W5 hR hf => ?_)
            have HI5 := Lib.hid (HQ.out W5 hR)
            clear hR hf HQ HBw
            go_wp2_with (first
              | (refine wpList_plain_value (v := .agg zc) rfl (by rw [← Hzc.out]; exact exec_build30e rfl) ?_)
              | (refine wpList_store_rowTo rfl 30 (.tmp 2) (.tmp 96) rfl rfl _ zc rfl rfl 30 zc (HCz.out _ HI5.out) (show _ = some zc.size by rw [hzs]; kernel_rfl) rfl HZo.out ?_))
            obtain ⟨hend, hres⟩ := HI5.out.result zc
            refine bodyPost_ret (v := .tuple #[.agg zc, .int .i64 5]) (results_cell_tmp rfl _ _ w.heap.size 30 _ _ _ _ rfl rfl hres rfl Try.underlying30 (show _ = some zc.size by rw [hzs]; kernel_rfl)) rfl ?_
            have ha := rdAns_no rfl HNo.out hend
            rw [Hzc.out] at ha
            exact ha
          · rfl
          · kernel_rfl
      · have hdn : (d != 0) = true := by simpa using h0
        have HNo := Lib.hid (show Form.done b.length (Cm.rd b).2.1 (Cm.rd b).2.2 ≠ 0 ∨ (Cm.rd b).1.mayB = false from .inl (by rw [← HRd.out.1]; dsimp only; rw [HD.out]; exact h0))
        clear h0
        go_wp2_with fail
        apply RegT.wp_region_T rfl 98 16 rfl (by kernel_rfl) RegT.Grow RegT.Grow.refl RegT.Grow.trans
        · apply RegT.T_pure rfl rfl rfl
          · intro W hR; clear hR; go_simp; rfl
          simp only [List.set_cons_succ, List.set_cons_zero, Nat.reduceAdd]
          apply RegT.T_const rfl rfl rfl (.int .i64 d) (fun _ _ h => h)
          · intro W hR hf
            have Hc := Lib.hid (HDn.out W (HQ.out W hR))
            clear hR hf
            go_simp
            exact RegT.OpOK_enter Hc.out (fun e w' h => ⟨_, h.1, rfl, h.2⟩)
          simp only [List.set_cons_succ, List.set_cons_zero, Nat.reduceAdd]
          apply RegT.T_pure (v := .bool true) rfl rfl rfl
          · intro W hR; clear hR; go_simp
          simp only [List.set_cons_succ, List.set_cons_zero, Nat.reduceAdd]
          apply RegT.T_pure (v := .bool true) rfl rfl rfl
          · intro W hR; clear hR; go_simp
          simp only [List.set_cons_succ, List.set_cons_zero, Nat.reduceAdd]
          apply RegT.T_skip rfl rfl rfl
          simp only [List.set_cons_succ, List.set_cons_zero, Nat.reduceAdd]
          apply RegT.T_skip rfl rfl rfl
          simp only [List.set_cons_succ, List.set_cons_zero, Nat.reduceAdd]
          apply RegT.T_skip rfl rfl rfl
          simp only [List.set_cons_succ, List.set_cons_zero, Nat.reduceAdd]
          apply RegT.T_pure (v := .bool true) rfl rfl rfl
          · intro W hR; clear hR; go_simp
          simp only [List.set_cons_succ, List.set_cons_zero, Nat.reduceAdd]
          apply RegT.T_pure (v := .bool true) rfl rfl rfl
          · intro W hR; clear hR; go_simp
          simp only [List.set_cons_succ, List.set_cons_zero, Nat.reduceAdd]
          apply RegT.T_skip rfl rfl rfl
          simp only [List.set_cons_succ, List.set_cons_zero, Nat.reduceAdd]
          apply RegT.T_skip rfl rfl rfl
          simp only [List.set_cons_succ, List.set_cons_zero, Nat.reduceAdd]
          apply RegT.T_skip rfl rfl rfl
          simp only [List.set_cons_succ, List.set_cons_zero, Nat.reduceAdd]
          apply RegT.T_skip rfl rfl rfl
          simp only [List.set_cons_succ, List.set_cons_zero, Nat.reduceAdd]
          apply RegT.T_skip rfl rfl rfl
          simp only [List.set_cons_succ, List.set_cons_zero, Nat.reduceAdd]
          apply RegT.T_skip rfl rfl rfl
          simp only [List.set_cons_succ, List.set_cons_zero, Nat.reduceAdd]
          apply RegT.T_pure (v := .bool true) rfl rfl rfl
          · intro W hR; clear hR; go_simp
          simp only [List.set_cons_succ, List.set_cons_zero, Nat.reduceAdd]
          refine RegT.T_end rfl (fun W5 hR hf => ?_)
          have HI5 := Lib.hid (HQ.out W5 hR)
          clear hR hf HQ HBw
          go_wp2_with (first
            | (refine wpList_plain_value (v := .agg zc) rfl (by rw [← Hzc.out]; exact exec_build30e rfl) ?_)
            | (refine wpList_store_rowTo rfl 30 (.tmp 2) (.tmp 96) rfl rfl _ zc rfl rfl 30 zc (HCz.out _ HI5.out) (show _ = some zc.size by rw [hzs]; kernel_rfl) rfl HZo.out ?_))
          obtain ⟨hend, hres⟩ := HI5.out.result zc
          refine bodyPost_ret (v := .tuple #[.agg zc, .int .i64 5]) (results_cell_tmp rfl _ _ w.heap.size 30 _ _ _ _ rfl rfl hres rfl Try.underlying30 (show _ = some zc.size by rw [hzs]; kernel_rfl)) rfl ?_
          have ha := rdAns_no rfl HNo.out hend
          rw [Hzc.out] at ha
          exact ha
        · rfl
        · kernel_rfl
end Go.Proofs.Ytoflehlkacofjaa
