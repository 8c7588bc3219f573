/- The document's Read: kind 5. -/
import Derived.Test.YteellfgiejnigaaQrX6
import Derived.Deep.RegionLaw
namespace Go.Proofs.Yteellfgiejnigaa
open Go.ChangeShapes Go.WideShapes Go.ChangeAt Go.RowKit
set_option linter.unusedVariables false
set_option maxRecDepth 100000 in
set_option maxHeartbeats 12800000 in
theorem rread_5_w (t : Nat) (s1 s2 : Rd.St) (v : Value) (b : List UInt8) (w : World) (hb : RdB w v b) (hl : b.length ≤ 1000000) (hK : Form.small b 0 0 7 = (5, s1)) (hT : Form.small b s1.1 s1.2 18446744073709551615 = (t, s2)) (i : Nat) (sI : Rd.St) (hI : Form.small b s2.1 s2.2 18446744073709551615 = (i, sI)) (a : Nat) (sA : Rd.St) (hA : Form.small b sI.1 sI.2 18446744073709551615 = (a, sA)) (c : Nat) (sC : Rd.St) (hC : Form.small b sA.1 sA.2 18446744073709551615 = (c, sC)) (n : Nat) (sN : Rd.St) (hN : Form.small b sC.1 sC.2 16 = (n, sN))
    (hfm : Form.done b.length (Rd.es b sN n).2.1 (Rd.es b sN n).2.2 = 0 → formN ⟨5, t, 0, i, a, c, false, (Rd.es b sN n).1, []⟩ = b) :
    Calls Try.prog 44 #[v] w (ReadP w ⟨5, t, 0, i, a, c, false, (Rd.es b sN n).1, []⟩ (decide (Form.done b.length (Rd.es b sN n).2.1 (Rd.es b sN n).2.2 = 0) && mayN ⟨5, t, 0, i, a, c, false, (Rd.es b sN n).1, []⟩)) := by
  have hoff : ∀ x, w.heap.size ≤ x → Off v x := fun x hx => hb.off hx
  have Hoff := Lib.hid hoff
  have HN0 := Lib.hid (NF.start hb)
  have h1l : s1.1 ≤ b.length := (Form.small_le (a' := s1.1) (e' := s1.2) hK (Nat.zero_le _)).2.1
  have h2l : s2.1 ≤ b.length := (Form.small_le (a' := s2.1) (e' := s2.2) hT h1l).2.1
  have htl : t < 2 ^ 64 := (Form.small_le (a' := s2.1) (e' := s2.2) hT h1l).2.2
  have HK := Lib.hid hK
  have HT := Lib.hid hT
  have H1l := Lib.hid h1l
  have H2l := Lib.hid h2l
  have Htl := Lib.hid htl
  have zI := Form.small_le (a' := sI.1) (e' := sI.2) hI h2l
  have lI : sI.1 ≤ b.length := zI.2.1
  have LI := Lib.hid lI
  have VI := Lib.hid zI.2.2
  have GI := Lib.hid hI
  have zA := Form.small_le (a' := sA.1) (e' := sA.2) hA lI
  have lA : sA.1 ≤ b.length := zA.2.1
  have LA := Lib.hid lA
  have VA := Lib.hid zA.2.2
  have GA := Lib.hid hA
  have zC := Form.small_le (a' := sC.1) (e' := sC.2) hC lA
  have lC : sC.1 ≤ b.length := zC.2.1
  have LC := Lib.hid lC
  have VC := Lib.hid zC.2.2
  have GC := Lib.hid hC
  have zN := Form.small_le (a' := sN.1) (e' := sN.2) hN lC
  have lN : sN.1 ≤ b.length := zN.2.1
  have LN := Lib.hid lN
  have VN := Lib.hid zN.2.2
  have GN := Lib.hid hN
  have Hn16 := Lib.hid (Form.small_most hN)
  have hn16 : n ≤ 16 := Hn16.out
  have Hes := Lib.hid (Rd.es_le b sN lN)
  have hn64 : n < 2 ^ 64 := by have := Hn16.out; omega
  have en : IntKind.i64.wrap (n : Int) = (n : Int) := IntWalk.i64_in _ (by have := Hn16.out; omega)
  have Hfm := Lib.hid hfm
  obtain ⟨p, c0, rfl, _⟩ := hb
  have ew : IntKind.u8.wrap (5 : Int) = 5 := by decide
  clear hoff hK hT hI hA hC hN h1l h2l htl zI lI zA lA zC lC zN lN hfm
  go_enter Try.func44, Try.ntmps44
  obtain ⟨E, hE⟩ : ∃ E, Form.done b.length (Rd.es b sN n).2.1 (Rd.es b sN n).2.2 = E := ⟨_, rfl⟩
  obtain ⟨mb, hmb⟩ : ∃ mb, mayN ⟨5, t, 0, i, a, c, false, (Rd.es b sN n).1, []⟩ = mb := ⟨_, rfl⟩
  have HE := Lib.hid hE
  have HMb := Lib.hid hmb
  have HX := Lib.hid (fun (pl : Option Addr) (nl cl : Nat) (W : World) (h : EsG W (FF w) 53 (.slice pl nl cl) (Rd.es b sN n).1) => (show NtA W (FF w) (.slice pl nl cl) (.slice none 0 0) ⟨5, t, 0, i, a, c, false, (Rd.es b sN n).1, []⟩ from FF.of_list h (by decide) Htl.out (by decide) VI.out VA.out VC.out))
  have HM := Lib.hid (fun (pl : Option Addr) (nl cl : Nat) (W : World) (h : NtA W (FF w) (.slice pl nl cl) (.slice none 0 0) ⟨5, t, 0, i, a, c, false, (Rd.es b sN n).1, []⟩) => (show Calls Try.prog 47 #[.agg #[.int .u8 5, .int .u64 (t : Int), .int .u64 0, .int .u64 (i : Int), .int .u64 (a : Int), .int .u64 (c : Int), .bool false, .slice pl nl cl, .slice none 0 0]] W fun e w' => e = .returned (.bool mb) ∧ Below W.heap.size W w' from by rw [← hmb]; exact rmay_w ⟨5, t, 0, i, a, c, false, (Rd.es b sN n).1, []⟩ _ _ _ W h (by have := (Hes.out n).2.1; have := Hn16.out; dsimp only; omega)))
  have HBy := Lib.hid (fun (hm : mayN ⟨5, t, 0, i, a, c, false, (Rd.es b sN n).1, []⟩ = true) (h0 : Form.done b.length (Rd.es b sN n).2.1 (Rd.es b sN n).2.2 = 0) (pl : Option Addr) (nl cl : Nat) (W : World) (h : NtA W (FF w) (.slice pl nl cl) (.slice none 0 0) ⟨5, t, 0, i, a, c, false, (Rd.es b sN n).1, []⟩) => (show Calls Try.prog 48 #[.agg #[.int .u8 5, .int .u64 (t : Int), .int .u64 0, .int .u64 (i : Int), .int .u64 (a : Int), .int .u64 (c : Int), .bool false, .slice pl nl cl, .slice none 0 0]] W fun e w' => (∃ p n c, e = .returned (.slice p n c) ∧ OB w' W.heap.size 5 (.slice p n c) b) ∧ Below W.heap.size W w' from by have h := rbytes_w ⟨5, t, 0, i, a, c, false, (Rd.es b sN n).1, []⟩ _ _ _ W h hm; rw [Hfm.out h0] at h; exact h))
  have Hle := Lib.hid (show (Rd.es b sN n).2.1 ≤ b.length from (Hes.out n).1)
  have Hrow := Lib.hid (fun (pl : Option Addr) (nl cl : Nat) => (show (#[.int .u8 5, .int .u64 (t : Int), .int .u64 0, .int .u64 (i : Int), .int .u64 (a : Int), .int .u64 (c : Int), .bool false, .slice pl nl cl, .slice none 0 0] : Array Value).all (·.oneCell') = true from by simp [Value.oneCell']))
  clear hmb hE
  go_wp2_with (first
    | (refine wpList_alloc_zero rfl 31 rfl _ hz31 ?_)
    | (go_at_call 87; go_loud ((with_reducible refine (refsmall_z _ _ b _ _ w.heap.size 7 7 rfl _ HN0.out.rd (Nat.le_succ _) (Nat.zero_le _) hl (by decide)).mono ?_); rintro e W1 ⟨n', a', e', h1, rfl, hm⟩; rw [HK.out] at h1; obtain ⟨rfl, rfl, rfl⟩ := take3 h1; clear h1; have HM := Lib.hid (HN0.out.read Hoff.out hm); have hcc := (HM.out.at 0).trans (show _ = some (Value.int .u8 0) from rfl); have hff := HM.out.thaw 0; have HN1 := Lib.hid (show NF w (W1.setCell ⟨w.heap.size + 1 + 1, 0, none⟩ (.int .u8 5)) _ b _ #[.int .u8 5, .int .u64 0, .int .u64 0, .int .u64 0, .int .u64 0, .int .u64 0, .bool false, .slice none 0 0, .slice none 0 0] from HM.out.put Hoff.out 0 (.int .u8 5)); have xk := (HN1.out.at 0).trans (show _ = some (Value.int .u8 5) from rfl); clear hm HM HN0))
    | (go_at_call 88; go_loud ((with_reducible refine (refrnat_w _ _ b _ _ w.heap.size _ HN1.out.rd (Nat.le_succ _) H1l.out hl).mono ?_); rintro e W2 ⟨n', a', e', h1, rfl, hm⟩; rw [HT.out] at h1; obtain ⟨rfl, rfl, rfl⟩ := take3 h1; clear h1; have HM := Lib.hid (HN1.out.read Hoff.out hm); have hcc := (HM.out.at 1).trans (show _ = some (Value.int .u64 0) from rfl); have hff := HM.out.thaw 1; have HN2 := Lib.hid (show NF w (W2.setCell ⟨w.heap.size + 1 + 1, 1, none⟩ (.int .u64 (t : Int))) _ b _ #[.int .u8 5, .int .u64 (t : Int), .int .u64 0, .int .u64 0, .int .u64 0, .int .u64 0, .bool false, .slice none 0 0, .slice none 0 0] from HM.out.put Hoff.out 1 (.int .u64 (t : Int))); have xk := (HN2.out.at 0).trans (show _ = some (Value.int .u8 5) from rfl); clear hm HM HN1))
    | (go_at_call 88; go_loud ((with_reducible refine (refrnat_w _ _ b _ _ w.heap.size _ HN2.out.rd (Nat.le_succ _) H2l.out hl).mono ?_); rintro e W3 ⟨n', a', e', h1, rfl, hm⟩; rw [GI.out] at h1; obtain ⟨rfl, rfl, rfl⟩ := take3 h1; clear h1; have HM := Lib.hid (HN2.out.read Hoff.out hm); have hcc := (HM.out.at 3).trans (show _ = some (Value.int .u64 0) from rfl); have hff := HM.out.thaw 3; have HN3 := Lib.hid (show NF w (W3.setCell ⟨w.heap.size + 1 + 1, 3, none⟩ (.int .u64 (i : Int))) _ b _ #[.int .u8 5, .int .u64 (t : Int), .int .u64 0, .int .u64 (i : Int), .int .u64 0, .int .u64 0, .bool false, .slice none 0 0, .slice none 0 0] from HM.out.put Hoff.out 3 (.int .u64 (i : Int))); have xk := (HN3.out.at 0).trans (show _ = some (Value.int .u8 5) from rfl); clear hm HM HN2))
    | (go_at_call 88; go_loud ((with_reducible refine (refrnat_w _ _ b _ _ w.heap.size _ HN3.out.rd (Nat.le_succ _) LI.out hl).mono ?_); rintro e W4 ⟨n', a', e', h1, rfl, hm⟩; rw [GA.out] at h1; obtain ⟨rfl, rfl, rfl⟩ := take3 h1; clear h1; have HM := Lib.hid (HN3.out.read Hoff.out hm); have hcc := (HM.out.at 4).trans (show _ = some (Value.int .u64 0) from rfl); have hff := HM.out.thaw 4; have HN4 := Lib.hid (show NF w (W4.setCell ⟨w.heap.size + 1 + 1, 4, none⟩ (.int .u64 (a : Int))) _ b _ #[.int .u8 5, .int .u64 (t : Int), .int .u64 0, .int .u64 (i : Int), .int .u64 (a : Int), .int .u64 0, .bool false, .slice none 0 0, .slice none 0 0] from HM.out.put Hoff.out 4 (.int .u64 (a : Int))); have xk := (HN4.out.at 0).trans (show _ = some (Value.int .u8 5) from rfl); clear hm HM HN3))
    | (go_at_call 88; go_loud ((with_reducible refine (refrnat_w _ _ b _ _ w.heap.size _ HN4.out.rd (Nat.le_succ _) LA.out hl).mono ?_); rintro e W5 ⟨n', a', e', h1, rfl, hm⟩; rw [GC.out] at h1; obtain ⟨rfl, rfl, rfl⟩ := take3 h1; clear h1; have HM := Lib.hid (HN4.out.read Hoff.out hm); have hcc := (HM.out.at 5).trans (show _ = some (Value.int .u64 0) from rfl); have hff := HM.out.thaw 5; have HN5 := Lib.hid (show NF w (W5.setCell ⟨w.heap.size + 1 + 1, 5, none⟩ (.int .u64 (c : Int))) _ b _ #[.int .u8 5, .int .u64 (t : Int), .int .u64 0, .int .u64 (i : Int), .int .u64 (a : Int), .int .u64 (c : Int), .bool false, .slice none 0 0, .slice none 0 0] from HM.out.put Hoff.out 5 (.int .u64 (c : Int))); have xk := (HN5.out.at 0).trans (show _ = some (Value.int .u8 5) from rfl); clear hm HM HN4))
    | (go_at_call 87; go_loud ((with_reducible refine (refsmall_z _ _ b _ _ w.heap.size 16 16 rfl _ HN5.out.rd (Nat.le_succ _) LC.out hl (by decide)).mono ?_); rintro e W6 ⟨n', a', e', h1, rfl, hm⟩; rw [GN.out] at h1; obtain ⟨rfl, rfl, rfl⟩ := take3 h1; clear h1; have HN6 := Lib.hid (HN5.out.read Hoff.out hm); clear hm HN5))
    | (go_at_call 88; fail))
  have HNs := Lib.hid (show NF w W6 _ b (Rd.es b sN 0).2 #[.int .u8 5, .int .u64 (t : Int), .int .u64 0, .int .u64 (i : Int), .int .u64 (a : Int), .int .u64 (c : Int), .bool false, .slice none 0 0, .slice none 0 0] from HN6.out)
  go_loopw [7] (fun ix wr => ∃ (j : Nat) (pl : Option Addr) (nl cl : Nat), j ≤ n ∧ ix = .int .i64 (j : Int) ∧ Hid (NF w wr (.slice p b.length c0) b (Rd.es b sN j).2 #[.int .u8 5, .int .u64 (t : Int), .int .u64 0, .int .u64 (i : Int), .int .u64 (a : Int), .int .u64 (c : Int), .bool false, .slice pl nl cl, .slice none 0 0]) ∧ Hid (EsG wr (FF w) 53 (.slice pl nl cl) (Rd.es b sN j).1)) (fun ix _ => n - (intOf ix).toNat)
  case atStart => exact ⟨0, none, 0, 0, Nat.zero_le _, rfl, HNs, Lib.hid (FF.nil _ _)⟩
  case round =>
    obtain ⟨j, pl, nl, cl, hj, rfl, HN, HG⟩ := hrel
    clear HNs HN6
    by_cases hlt : j < n
    · obtain ⟨t1, sa, hsm⟩ : ∃ t1 sa, Form.small b (Rd.es b sN j).2.1 (Rd.es b sN j).2.2 18446744073709551615 = (t1, sa) := ⟨_, _, rfl⟩
      obtain ⟨l1, sb, htx⟩ : ∃ l1 sb, Form.txt b sa.1 sa.2 3000 = (l1, sb) := ⟨_, _, rfl⟩
      have Hstep := Lib.hid (Rd.es_step hsm htx)
      have hsa := Form.small_le (a' := sa.1) (e' := sa.2) hsm (Hes.out j).1
      have Hsa := Lib.hid hsa.2.1
      have Ht1 := Lib.hid hsa.2.2
      have Hlj := Lib.hid (show (Rd.es b sN j).1.length ≤ 1000 by have := (Hes.out j).2.1; have := Hn16.out; omega)
      have Hsm := Lib.hid hsm
      have Htx := Lib.hid htx
      clear hsm htx hsa
      go_wp2_with (first
        | (go_at_call 88; go_loud ((with_reducible refine (refrnat_w _ _ b _ _ w.heap.size _ HN.out.rd (Nat.le_succ _) (Hes.out j).1 hl).mono ?_); rintro e w6 ⟨n', a', e', h1, rfl, hm⟩; rw [Hsm.out] at h1; obtain ⟨rfl, rfl, rfl⟩ := take3 h1; clear h1; have HN6 := Lib.hid (HN.out.read Hoff.out hm); have HG6 := Lib.hid (FF.moved HG.out hm.grown); clear hm HN HG)))
      have HN6d := Lib.hid (HN6.out.keep (Below.refl w6.heap.size w6).drew)
      have HG6d := Lib.hid (HG6.out.keeps (Keeps.refl w6).drew)
      have x6 : w6.cell? ⟨w.heap.size + 1 + 1, 7, none⟩ = some (.slice pl nl cl) := (HN6.out.at 7).trans rfl
      go_region_law (first
        | (refine step_enter rfl 90 Try.func90 (by kernel_rfl) (by kernel_rfl) _ _ rfl #[.pointer (some ⟨w.heap.size + 1, 0, none⟩), .int .i64 3000] (by simp [Act.eval, Act.put]) (refrtext_w _ _ b _ _ 3000 w.heap.size _ HN6d.out.rd (Nat.le_succ _) Hsa.out hl ⟨by decide, by decide⟩) ?_; (rintro r w7 ⟨t', a', e', pe, ke, ce, h1, rfl, hke, hob, hm⟩; rw [Htx.out] at h1; obtain ⟨rfl, rfl, rfl⟩ := take3 h1; clear h1; subst hke; have HN7 := Lib.hid (HN6d.out.read Hoff.out hm); have HG7 := Lib.hid (FF.moved HG6d.out hm.grown); have HD7 := Lib.hid (FF.data2 (w := w) hob (lt_of_at HN6d.out.x) HG6d.out); have HD7' := Lib.hid (show DatA w7 (fun x => FF w x ∧ (Value.slice pl nl cl).ownBlock ≠ some x) (.slice pe l1.length ce) l1 from HD7.out); have x7b := (HN7.out.at 7).trans (show _ = some (Value.slice pl nl cl) from rfl); have x7c := ((HN7.out.keep ((Below.refl _ _).alloc (Nat.le_refl _) (.cells #[.int .u64 (t1 : Int), .slice pe l1.length ce] 53))).at 7).trans (show _ = some (Value.slice pl nl cl) from rfl); obtain ⟨p9, n9, c9, w9, hr9, hN9, hG9⟩ := take_appendF HN7.out Hoff.out HG7.out HD7'.out Ht1.out Hlj.out; have HN9 := Lib.hid hN9; have HG9 := Lib.hid hG9; have hcc9 := (HN9.out.at 7).trans (show _ = some (Value.slice pl nl cl) from rfl); have hff9 := HN9.out.thaw 7; have Hr9 := Lib.hid hr9; clear hm hob hN9 hG9 hr9; refine ⟨_, rfl, ?_⟩))
        | (refine step_append_eq rfl (.tmp 75) (.tmp 80) 28 rfl (v := .slice pl nl cl) (y := .slice (some ⟨w7.heap.size, 0, none⟩) 1 1) (by simp [Act.eval]) (by simp [Act.eval]) Hr9.out ?_))
      all_goals
        go_wp2
        go_roundw
        case rel => exact ⟨j + 1, p9, n9, c9, by omega, by go_num, Lib.hid (by rw [Hstep.out]; exact HN9.out.put Hoff.out 7 (.slice p9 n9 c9)), Lib.hid (by rw [Hstep.out]; exact FF.put HG9.out 7 _)⟩
        case measure => simp [intOf]; omega
    · have hjn : n = j := by omega
      subst hjn
      clear hlt hj
      go_wp2
      have H35 := Lib.hid (fun (W : World) (hR : RegT.Grow wr.drew W) => HN.out.keep ((Below.refl wr.heap.size wr).drew.trans hR))
      have HL35 := Lib.hid (fun (W : World) (hR : RegT.Grow wr.drew W) => HG.out.keeps ((Keeps.refl wr).drew.trans hR.block))
      by_cases hE0 : E = 0
      · subst hE0
        cases mb with
        | true =>
          apply RegT.wp_region_T rfl 120 16 rfl (by kernel_rfl) RegT.Grow RegT.Grow.refl RegT.Grow.trans
          · apply RegT.T_pure rfl rfl rfl
            · intro W hR; clear hR; go_simp; rfl
            simp only [List.set_cons_succ, List.set_cons_zero, Nat.reduceAdd]
            apply RegT.T_const rfl rfl rfl (.int .i64 0) (fun _ _ h => h)
            · intro W hR hf
              have Hc := Lib.hid (refrdone_w _ _ b _ _ _ W (H35.out W hR).rd Hle.out hl)
              rw [HE.out] at Hc
              clear hR hf
              go_simp
              exact RegT.OpOK_enter Hc.out (fun e w' h => ⟨_, h.1, rfl, by rw [← h.2]; exact RegT.Grow.refl _⟩)
            simp only [List.set_cons_succ, List.set_cons_zero, Nat.reduceAdd]
            apply RegT.T_pure (v := .bool false) rfl rfl rfl
            · intro W hR; clear hR; go_simp
            simp only [List.set_cons_succ, List.set_cons_zero, Nat.reduceAdd]
            apply RegT.T_pure (v := .bool false) rfl rfl rfl
            · intro W hR; clear hR; go_simp
            simp only [List.set_cons_succ, List.set_cons_zero, Nat.reduceAdd]
            apply RegT.T_pure rfl rfl rfl
            · exact fun W hR => run_load31 (.tmp 5) rfl rfl (H35.out W hR).x rfl
            simp only [List.set_cons_succ, List.set_cons_zero, Nat.reduceAdd]
            apply RegT.T_const rfl rfl rfl (.bool true) (fun _ _ h => h)
            · intro W hR hf
              have Hc := Lib.hid (HM.out pl nl cl W (HX.out pl nl cl W (HL35.out W hR)))
              clear hR hf
              go_simp
              exact RegT.OpOK_enter Hc.out (fun e w' h => ⟨_, h.1, rfl, h.2⟩)
            simp only [List.set_cons_succ, List.set_cons_zero, Nat.reduceAdd]
            apply RegT.T_pure (v := .bool false) rfl rfl rfl
            · intro W hR; clear hR; go_simp
            simp only [List.set_cons_succ, List.set_cons_zero, Nat.reduceAdd]
            apply RegT.T_pure (v := .bool false) rfl rfl rfl
            · intro W hR; clear hR; go_simp
            simp only [List.set_cons_succ, List.set_cons_zero, Nat.reduceAdd]
            apply RegT.T_pure (v := .bool false) rfl rfl rfl
            · intro W hR; clear hR; go_simp
            simp only [List.set_cons_succ, List.set_cons_zero, Nat.reduceAdd]
            apply RegT.T_pure rfl rfl rfl
            · exact fun W hR => run_load31 (.tmp 5) rfl rfl (H35.out W hR).x rfl
            simp only [List.set_cons_succ, List.set_cons_zero, Nat.reduceAdd]
            apply RegT.T_predC rfl rfl rfl 11 (RdP b) (fun _ _ h => h) (fun y x z hR h => h.keeps hR.block)
            · intro W hR hf
              have Hc := Lib.hid (HBy.out HMb.out HE.out pl nl cl W (HX.out pl nl cl W (HL35.out W hR)))
              clear hR hf
              go_simp
              exact RegT.OpOK_enter Hc.out (fun e w' ⟨⟨p, n, c, he, ho⟩, hB⟩ => ⟨_, he, ⟨p, n, c, rfl, ho.rd⟩, hB⟩)
            intro v10
            simp only [List.set_cons_succ, List.set_cons_zero, Nat.reduceAdd]
            apply RegT.T_const rfl rfl rfl (.string ⟨b.toArray⟩) (fun _ _ h => h)
            · intro W hR hf
              obtain ⟨p1, n1, c1, rfl, hr1⟩ : RdP b v10 W := hf _ (.head _) (by kernel_rfl) (.inr rfl)
              have hc := run_convert_str (P := Try.prog) hr1 29 5 9 Try.underlying29 Try.underlying5 Try.underlying9
              clear hR hf hr1
              go_simp
              exact RegT.OpOK_value ⟨rfl, RegT.Grow.refl _⟩
            simp only [List.set_cons_succ, List.set_cons_zero, Nat.reduceAdd]
            apply RegT.T_pure rfl rfl rfl
            · intro W hR; clear hR; go_simp; rfl
            simp only [List.set_cons_succ, List.set_cons_zero, Nat.reduceAdd]
            apply RegT.T_pure (v := .string ⟨b.toArray⟩) rfl rfl rfl
            · intro W hR
              have hc := run_convert_str (P := Try.prog) (H35.out W hR).bs 29 5 9 Try.underlying29 Try.underlying5 Try.underlying9
              clear hR
              go_simp
            simp only [List.set_cons_succ, List.set_cons_zero, Nat.reduceAdd]
            apply RegT.T_pure (v := .bool false) rfl rfl rfl
            · intro W hR; clear hR; go_simp
            simp only [List.set_cons_succ, List.set_cons_zero, Nat.reduceAdd]
            apply RegT.T_pure (v := .bool false) rfl rfl rfl
            · intro W hR; clear hR; go_simp
            simp only [List.set_cons_succ, List.set_cons_zero, Nat.reduceAdd]
            refine RegT.T_end rfl (fun W5 hR hf => ?_)
            have HNz := Lib.hid (H35.out W5 hR)
            have HLz := Lib.hid (HL35.out W5 hR)
            clear hR hf
            go_wp2_with (first
              | (refine wpList_load31 rfl (.tmp 5) rfl rfl HNz.out.x rfl ?_)
              | (refine wpList_store_rowTo rfl 31 (.tmp 2) (.tmp 119) rfl rfl _ #[.int .u8 5, .int .u64 (t : Int), .int .u64 0, .int .u64 (i : Int), .int .u64 (a : Int), .int .u64 (c : Int), .bool false, .slice pl nl cl, .slice none 0 0] rfl rfl 31 zN HNz.out.rz (show _ = some 9 by kernel_rfl) rfl (Hrow.out pl nl cl ) ?_))
            obtain ⟨hend, hres⟩ := HNz.out.end_ #[.int .u8 5, .int .u64 (t : Int), .int .u64 0, .int .u64 (i : Int), .int .u64 (a : Int), .int .u64 (c : Int), .bool false, .slice pl nl cl, .slice none 0 0]
            refine bodyPost_ret (v := .tuple #[.agg #[.int .u8 5, .int .u64 (t : Int), .int .u64 0, .int .u64 (i : Int), .int .u64 (a : Int), .int .u64 (c : Int), .bool false, .slice pl nl cl, .slice none 0 0], .int .i64 0]) (results_cell_tmp rfl _ _ w.heap.size 31 _ _ _ _ rfl rfl hres rfl Try.underlying31 (show _ = some 9 by kernel_rfl)) rfl ?_
            exact readP_yes (lv := (.slice pl nl cl)) (dv := (.slice none 0 0)) (by rw [HE.out, HMb.out]; rfl) (((HX.out pl nl cl _ HLz.out).frame (FF.sameRow _ _ _)).mono fun x _ hx => by have hx' : w.heap.size + 1 + 1 < x := hx; show w.heap.size ≤ x; omega) hend
          · rfl
          · kernel_rfl
        | false =>
          apply RegT.wp_region_T rfl 120 16 rfl (by kernel_rfl) RegT.Grow RegT.Grow.refl RegT.Grow.trans
          · apply RegT.T_pure rfl rfl rfl
            · intro W hR; clear hR; go_simp; rfl
            simp only [List.set_cons_succ, List.set_cons_zero, Nat.reduceAdd]
            apply RegT.T_const rfl rfl rfl (.int .i64 0) (fun _ _ h => h)
            · intro W hR hf
              have Hc := Lib.hid (refrdone_w _ _ b _ _ _ W (H35.out W hR).rd Hle.out hl)
              rw [HE.out] at Hc
              clear hR hf
              go_simp
              exact RegT.OpOK_enter Hc.out (fun e w' h => ⟨_, h.1, rfl, by rw [← h.2]; exact RegT.Grow.refl _⟩)
            simp only [List.set_cons_succ, List.set_cons_zero, Nat.reduceAdd]
            apply RegT.T_pure (v := .bool false) rfl rfl rfl
            · intro W hR; clear hR; go_simp
            simp only [List.set_cons_succ, List.set_cons_zero, Nat.reduceAdd]
            apply RegT.T_pure (v := .bool false) rfl rfl rfl
            · intro W hR; clear hR; go_simp
            simp only [List.set_cons_succ, List.set_cons_zero, Nat.reduceAdd]
            apply RegT.T_pure rfl rfl rfl
            · exact fun W hR => run_load31 (.tmp 5) rfl rfl (H35.out W hR).x rfl
            simp only [List.set_cons_succ, List.set_cons_zero, Nat.reduceAdd]
            apply RegT.T_const rfl rfl rfl (.bool false) (fun _ _ h => h)
            · intro W hR hf
              have Hc := Lib.hid (HM.out pl nl cl W (HX.out pl nl cl W (HL35.out W hR)))
              clear hR hf
              go_simp
              exact RegT.OpOK_enter Hc.out (fun e w' h => ⟨_, h.1, rfl, h.2⟩)
            simp only [List.set_cons_succ, List.set_cons_zero, Nat.reduceAdd]
            apply RegT.T_pure (v := .bool true) rfl rfl rfl
            · intro W hR; clear hR; go_simp
            simp only [List.set_cons_succ, List.set_cons_zero, Nat.reduceAdd]
            apply RegT.T_pure (v := .bool true) rfl rfl rfl
            · intro W hR; clear hR; go_simp
            simp only [List.set_cons_succ, List.set_cons_zero, Nat.reduceAdd]
            apply RegT.T_pure (v := .bool true) rfl rfl rfl
            · intro W hR; clear hR; go_simp
            simp only [List.set_cons_succ, List.set_cons_zero, Nat.reduceAdd]
            apply RegT.T_skip rfl rfl rfl
            simp only [List.set_cons_succ, List.set_cons_zero, Nat.reduceAdd]
            apply RegT.T_skip rfl rfl rfl
            simp only [List.set_cons_succ, List.set_cons_zero, Nat.reduceAdd]
            apply RegT.T_skip rfl rfl rfl
            simp only [List.set_cons_succ, List.set_cons_zero, Nat.reduceAdd]
            apply RegT.T_skip rfl rfl rfl
            simp only [List.set_cons_succ, List.set_cons_zero, Nat.reduceAdd]
            apply RegT.T_skip rfl rfl rfl
            simp only [List.set_cons_succ, List.set_cons_zero, Nat.reduceAdd]
            apply RegT.T_skip rfl rfl rfl
            simp only [List.set_cons_succ, List.set_cons_zero, Nat.reduceAdd]
            apply RegT.T_pure (v := .bool true) rfl rfl rfl
            · intro W hR; clear hR; go_simp
            simp only [List.set_cons_succ, List.set_cons_zero, Nat.reduceAdd]
            refine RegT.T_end rfl (fun W5 hR hf => ?_)
            have HNz := Lib.hid (H35.out W5 hR)
            have HLz := Lib.hid (HL35.out W5 hR)
            clear hR hf
            go_wp2_with (refine wpList_store_rowTo rfl 31 (.tmp 2) (.tmp 118) rfl rfl _ zN rfl rfl 31 zN HNz.out.rz (show _ = some 9 by kernel_rfl) rfl zN_one ?_)
            obtain ⟨hend, hres⟩ := HNz.out.end_ zN
            refine bodyPost_ret (v := .tuple #[.agg zN, .int .i64 5]) (results_cell_tmp rfl _ _ w.heap.size 31 _ _ _ _ rfl rfl hres rfl Try.underlying31 (show _ = some 9 by kernel_rfl)) rfl ?_
            exact readP_no (by rw [HE.out, HMb.out]; rfl) hend
          · rfl
          · kernel_rfl
      · have e0 : (E == 0) = false := by simp [hE0]
        have e1 : (E != 0) = true := by simp [hE0]
        have e2 : decide (E = 0) = false := by simp [hE0]
        apply RegT.wp_region_T rfl 120 16 rfl (by kernel_rfl) RegT.Grow RegT.Grow.refl RegT.Grow.trans
        · apply RegT.T_pure rfl rfl rfl
          · intro W hR; clear hR; go_simp; rfl
          simp only [List.set_cons_succ, List.set_cons_zero, Nat.reduceAdd]
          apply RegT.T_const rfl rfl rfl (.int .i64 E) (fun _ _ h => h)
          · intro W hR hf
            have Hc := Lib.hid (refrdone_w _ _ b _ _ _ W (H35.out W hR).rd Hle.out hl)
            rw [HE.out] at Hc
            clear hR hf
            go_simp
            exact RegT.OpOK_enter Hc.out (fun e w' h => ⟨_, h.1, rfl, by rw [← h.2]; exact RegT.Grow.refl _⟩)
          simp only [List.set_cons_succ, List.set_cons_zero, Nat.reduceAdd]
          apply RegT.T_pure (v := .bool true) rfl rfl rfl
          · intro W hR; clear hR; go_simp
          simp only [List.set_cons_succ, List.set_cons_zero, Nat.reduceAdd]
          apply RegT.T_pure (v := .bool true) rfl rfl rfl
          · intro W hR; clear hR; go_simp
          simp only [List.set_cons_succ, List.set_cons_zero, Nat.reduceAdd]
          apply RegT.T_skip rfl rfl rfl
          simp only [List.set_cons_succ, List.set_cons_zero, Nat.reduceAdd]
          apply RegT.T_skip rfl rfl rfl
          simp only [List.set_cons_succ, List.set_cons_zero, Nat.reduceAdd]
          apply RegT.T_skip rfl rfl rfl
          simp only [List.set_cons_succ, List.set_cons_zero, Nat.reduceAdd]
          apply RegT.T_pure (v := .bool true) rfl rfl rfl
          · intro W hR; clear hR; go_simp
          simp only [List.set_cons_succ, List.set_cons_zero, Nat.reduceAdd]
          apply RegT.T_pure (v := .bool true) rfl rfl rfl
          · intro W hR; clear hR; go_simp
          simp only [List.set_cons_succ, List.set_cons_zero, Nat.reduceAdd]
          apply RegT.T_skip rfl rfl rfl
          simp only [List.set_cons_succ, List.set_cons_zero, Nat.reduceAdd]
          apply RegT.T_skip rfl rfl rfl
          simp only [List.set_cons_succ, List.set_cons_zero, Nat.reduceAdd]
          apply RegT.T_skip rfl rfl rfl
          simp only [List.set_cons_succ, List.set_cons_zero, Nat.reduceAdd]
          apply RegT.T_skip rfl rfl rfl
          simp only [List.set_cons_succ, List.set_cons_zero, Nat.reduceAdd]
          apply RegT.T_skip rfl rfl rfl
          simp only [List.set_cons_succ, List.set_cons_zero, Nat.reduceAdd]
          apply RegT.T_skip rfl rfl rfl
          simp only [List.set_cons_succ, List.set_cons_zero, Nat.reduceAdd]
          apply RegT.T_pure (v := .bool true) rfl rfl rfl
          · intro W hR; clear hR; go_simp
          simp only [List.set_cons_succ, List.set_cons_zero, Nat.reduceAdd]
          refine RegT.T_end rfl (fun W5 hR hf => ?_)
          have HNz := Lib.hid (H35.out W5 hR)
          have HLz := Lib.hid (HL35.out W5 hR)
          clear hR hf
          go_wp2_with (refine wpList_store_rowTo rfl 31 (.tmp 2) (.tmp 118) rfl rfl _ zN rfl rfl 31 zN HNz.out.rz (show _ = some 9 by kernel_rfl) rfl zN_one ?_)
          obtain ⟨hend, hres⟩ := HNz.out.end_ zN
          refine bodyPost_ret (v := .tuple #[.agg zN, .int .i64 5]) (results_cell_tmp rfl _ _ w.heap.size 31 _ _ _ _ rfl rfl hres rfl Try.underlying31 (show _ = some 9 by kernel_rfl)) rfl ?_
          exact readP_no (by rw [HE.out, decide_eq_false hE0]; rfl) hend
        · rfl
        · kernel_rfl

end Go.Proofs.Yteellfgiejnigaa
