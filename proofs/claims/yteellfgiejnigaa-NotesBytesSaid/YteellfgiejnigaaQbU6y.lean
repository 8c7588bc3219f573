/- The walk of notes.Read (case y). -/
import Derived.Test.YteellfgiejnigaaQbU5
import Derived.Deep.RegionWith
namespace Go.Proofs.Yteellfgiejnigaa
open Go.ChangeShapes Go.WideShapes Go.ChangeAt Go.RowKit
set_option linter.unusedVariables false
set_option maxRecDepth 100000 in
set_option maxHeartbeats 12800000 in
theorem read_y_w (k t : Nat) (s1 s2 : Rd.St) (f : Nat → Bool) (v : Value) (b : List UInt8) (w : World) (hb : RdB w v b) (hl : b.length ≤ 1000000) (hK : Form.small b 0 0 7 = (k, s1)) (hT : Form.small b s1.1 s1.2 18446744073709551615 = (t, s2)) (y : Bool) (s5 : Rd.St) (hY : Form.flg b (Rd.ns b f s2 4).1 (Rd.ns b f s2 4).2 = (y, s5))
    (hF : ∀ W, Calls Try.prog 68 #[.int .u8 (k : Int)] W fun r w' => r = .returned (.agg #[.bool (f 0), .bool (f 1), .bool (f 2), .bool (f 3), .bool true, .bool false, .bool false]) ∧ Below W.heap.size W w') :
    Calls Try.prog 43 #[v] w (ReadP w ⟨k, t, Rd.nv b f s2 0, Rd.nv b f s2 1, Rd.nv b f s2 2, Rd.nv b f s2 3, y, [], []⟩ (decide (Form.done b.length s5.1 s5.2 = 0) && mayN ⟨k, t, Rd.nv b f s2 0, Rd.nv b f s2 1, Rd.nv b f s2 2, Rd.nv b f s2 3, y, [], []⟩)) := by
  have hoff : ∀ x, w.heap.size ≤ x → Off v x := fun x hx => hb.off hx
  have Hoff := Lib.hid hoff
  have HP1 := Lib.hid (PR.start hb)
  have Hk := Form.small_most hK
  have h1l : s1.1 ≤ b.length := (Form.small_le (a' := s1.1) (e' := s1.2) hK (Nat.zero_le _)).2.1
  have h2l : s2.1 ≤ b.length := (Form.small_le (a' := s2.1) (e' := s2.2) hT h1l).2.1
  have htl : t < 2 ^ 64 := (Form.small_le (a' := s2.1) (e' := s2.2) hT h1l).2.2
  have HK := Lib.hid hK
  have HT := Lib.hid hT
  have H1l := Lib.hid h1l
  have Htl := Lib.hid htl
  have Hns := Lib.hid (Rd.ns_le b f s2 h2l)
  have Hnv := Lib.hid (Rd.nv_lt b f s2 h2l)
  have HF := Lib.hid hF
  obtain ⟨p, c, rfl, _⟩ := hb
  have ew : IntKind.u8.wrap (k : Int) = (k : Int) := by rw [IntKind.wrap_u8]; omega
  have Hone := Lib.hid (show (xr k t (Rd.nv b f s2) 0 false (.slice none 0 0) (.slice none 0 0)).all (·.oneCell') = true from xr_one _ _ _ _ _ _ _ _ _ _ _)
  clear hoff hK hT h1l h2l htl hF
  go_enter Try.func43, Try.ntmps43
  go_wp2_with (first
    | (refine wpList_alloc_zero rfl 31 rfl _ hz31 ?_)
    | (go_at_call 81; go_loud (refine (newrd_w _ _ _ _).mono ?_; rintro r w1 ⟨rfl, hw1⟩; have HP := Lib.hid (show PR w w1 _ b (0, 0) from by rw [hw1]; exact HP1.out); have hs1 : (w.alloc (.cells zN 31)).heap.size = w.heap.size + 1 := (by simp); rw [hs1]; clear hw1 hs1 HP1))
    | (go_at_call 82; go_loud (refine (small_w _ _ b _ _ 7 _ HP.out.rd HP.out.bs (Nat.zero_le _) hl (by decide)).mono ?_; rintro r w2 ⟨n', a', e', h1, rfl, hm⟩; rw [HK.out] at h1; obtain ⟨rfl, rfl, rfl⟩ := take3 h1; clear h1; have HP2 := Lib.hid (HP.out.read Hoff.out hm); clear hm HP))
    | (go_at_call 83; go_loud (refine (rnat_w _ _ b _ _ _ HP2.out.rd HP2.out.bs H1l.out hl).mono ?_; rintro r w3 ⟨n', a', e', h1, rfl, hm⟩; rw [HT.out] at h1; obtain ⟨rfl, rfl, rfl⟩ := take3 h1; clear h1; have HP3 := Lib.hid (HP2.out.read Hoff.out hm); have HN3 := Lib.hid (heap_alloc_new w3 (.cells zN 31)); have x0 : (w3.alloc (.cells (xr k t (Rd.nv b f s2) 0 false (.slice none 0 0) (.slice none 0 0)) 31)).cell? ⟨w3.heap.size, 0, none⟩ = some (.int .u8 (k : Int)) := (by rw [cell_of_row _ _ _ _ _ _ (heap_alloc_new w3 _)]; rfl); clear hm HP2))
    | (refine wpList_store_rowTo rfl 31 (.tmp 5) (.tmp 16) rfl rfl _ (xr k t (Rd.nv b f s2) 0 false (.slice none 0 0) (.slice none 0 0)) rfl rfl 31 zN HN3.out (show _ = some 9 by kernel_rfl) rfl Hone.out ?_; rw [alloc_setRow])
    | (go_at_call 68; go_loud (refine (HF.out _).mono ?_; rintro r w4 ⟨rfl, hB⟩; have HPl := Lib.hid (Pl.start HP3.out Hoff.out hB); have HNR := Lib.hid (NR.start HP3.out hB #[.bool (f 0), .bool (f 1), .bool (f 2), .bool (f 3), .bool true, .bool false, .bool false]); clear hB HF HP3 HN3))
    | (refine wpList_alloc_zero rfl 112 rfl _ hz112 ?_)
    | (refine wpList_store_rowTo rfl 112 (.tmp 6) (.tmp 19) rfl rfl _ #[.bool (f 0), .bool (f 1), .bool (f 2), .bool (f 3), .bool true, .bool false, .bool false] rfl rfl 112 #[.bool false, .bool false, .bool false, .bool false, .bool false, .bool false, .bool false] (heap_alloc_new w4 _) (show _ = some 7 by kernel_rfl) rfl (by simp [Value.oneCell']) ?_; rw [alloc_setRow]))
  obtain ⟨B, hBd⟩ : ∃ B, w3.heap.size = B := ⟨_, rfl⟩
  obtain ⟨H, hHd⟩ : ∃ H, w4.heap.size = H := ⟨_, rfl⟩
  rw [hBd, hHd] at HPl HNR
  have hsz : (w4.alloc (.cells #[.bool (f 0), .bool (f 1), .bool (f 2), .bool (f 3), .bool true, .bool false, .bool false] 112)).heap.size = H + 1 := by simp [hHd]
  have HNb := Lib.hid (heap_alloc_new (w4.alloc (.cells #[.bool (f 0), .bool (f 1), .bool (f 2), .bool (f 3), .bool true, .bool false, .bool false] 112)) (.cells #[.bool (f 0), .pointer (some ⟨B, 2, none⟩), .bool (f 1), .pointer (some ⟨B, 3, none⟩), .bool (f 2), .pointer (some ⟨B, 4, none⟩), .bool (f 3), .pointer (some ⟨B, 5, none⟩)] 131))
  have HNR5 := Lib.hid (HNR.out.keep ((Below.refl _ _).alloc (Nat.le_refl _) (.cells #[.bool (f 0), .pointer (some ⟨B, 2, none⟩), .bool (f 1), .pointer (some ⟨B, 3, none⟩), .bool (f 2), .pointer (some ⟨B, 4, none⟩), .bool (f 3), .pointer (some ⟨B, 5, none⟩)] 131)))
  rw [hsz] at HNb
  simp only [hBd, hHd]
  generalize hW5 : (w4.alloc (.cells #[.bool (f 0), .bool (f 1), .bool (f 2), .bool (f 3), .bool true, .bool false, .bool false] 112)).alloc (.cells #[.bool (f 0), .pointer (some ⟨B, 2, none⟩), .bool (f 1), .pointer (some ⟨B, 3, none⟩), .bool (f 2), .pointer (some ⟨B, 4, none⟩), .bool (f 3), .pointer (some ⟨B, 5, none⟩)] 131) = W5 at *
  clear hW5 hsz hBd hHd HNR
  have Hat := Lib.hid (show ∀ j, j < 4 → (#[.bool (f 0), .pointer (some ⟨B, 2, none⟩), .bool (f 1), .pointer (some ⟨B, 3, none⟩), .bool (f 2), .pointer (some ⟨B, 4, none⟩), .bool (f 3), .pointer (some ⟨B, 5, none⟩)] : Array Value)[j * 2]? = some (.bool (f j)) ∧ (#[.bool (f 0), .pointer (some ⟨B, 2, none⟩), .bool (f 1), .pointer (some ⟨B, 3, none⟩), .bool (f 2), .pointer (some ⟨B, 4, none⟩), .bool (f 3), .pointer (some ⟨B, 5, none⟩)] : Array Value)[j * 2 + 1]? = some (.pointer (some ⟨B, 2 + j, none⟩)) from by
    intro j hj
    have h4 : j = 0 ∨ j = 1 ∨ j = 2 ∨ j = 3 := by omega
    rcases h4 with rfl | rfl | rfl | rfl <;> exact ⟨rfl, rfl⟩)
  go_loopw [38] (fun i wr => ∃ j : Nat, j ≤ 4 ∧ i = .int .i64 (j : Int) ∧ Hid (NR w wr (w.heap.size + 1) B w.heap.size H (.slice p b.length c) b (Rd.ns b f s2 j) (xr k t (Rd.nv b f s2) j false (.slice none 0 0) (.slice none 0 0)) #[.bool (f 0), .bool (f 1), .bool (f 2), .bool (f 3), .bool true, .bool false, .bool false]) ∧ Hid (wr.heap[H + 1]? = some (.cells #[.bool (f 0), .pointer (some ⟨B, 2, none⟩), .bool (f 1), .pointer (some ⟨B, 3, none⟩), .bool (f 2), .pointer (some ⟨B, 4, none⟩), .bool (f 3), .pointer (some ⟨B, 5, none⟩)] 131))) (fun i _ => 4 - (intOf i).toNat)
  case atStart => exact ⟨0, by omega, rfl, HNR5, HNb⟩
  case round =>
    obtain ⟨j, hj, rfl, HN, HR⟩ := hrel
    clear HNR5 HNb
    by_cases hlt : j < 4
    · obtain ⟨hc0, hc1'⟩ := Hat.out j hlt
      have hra : wr.rangeAt (H + 1) (j * 2) [.bool (f j), .pointer (some ⟨B, 2 + j, none⟩)] := fun i u hu => by
        rw [cell_of_row _ _ _ _ _ _ HR.out]
        match i, hu with
        | 0, hu => cases hu; exact hc0
        | 1, hu => cases hu; exact hc1'
      have Hst := Lib.hid (Rd.nf_step b f s2 j)
      obtain ⟨fj, hfj⟩ : ∃ fj, f j = fj := ⟨_, rfl⟩
      rw [hfj] at hra Hst
      obtain ⟨W7, HW7, he7, hB7⟩ := stored131 wr fj ⟨B, 2 + j, none⟩
      have HZ := Lib.hid (heap_alloc_new wr (.cells #[.bool false, .pointer none] 131))
      have z0 : W7.cell? ⟨wr.heap.size, 0, none⟩ = some (.bool fj) := by rw [cell_of_row _ _ _ _ _ _ he7]; rfl
      have z1 : W7.cell? ⟨wr.heap.size, 1, none⟩ = some (.pointer (some ⟨B, 2 + j, none⟩)) := by rw [cell_of_row _ _ _ _ _ _ he7]; rfl
      have HN7 := Lib.hid (HN.out.keep hB7)
      have hnb : H + 1 < wr.heap.size := lt_of_at HR.out
      have HR7 := Lib.hid ((hB7.block _ hnb).trans HR.out)
      have Hra := Lib.hid hra
      have He7 := Lib.hid he7
      have hone : (#[Value.bool fj, .pointer (some ⟨B, 2 + j, none⟩)]).all (·.oneCell') = true := by simp [Value.oneCell']
      have Hone7 := Lib.hid hone
      have Hgb := Lib.hid (show w.heap.size + 1 < wr.heap.size from HN.out.rd.lt)
      clear hra hc0 hc1' he7 hB7 hone
      cases fj with
      | false =>
        have Hs := Lib.hid (show Rd.ns b f s2 (j + 1) = Rd.ns b f s2 j ∧ Rd.nv b f s2 j = 0 from by have h := Hst.out; unfold Rd.nf at h; rw [if_neg (by decide)] at h; exact ⟨(congrArg Prod.snd h).symm, (congrArg Prod.fst h).symm⟩)
        go_wp2_with (first
          | (refine wpList_load_mid rfl 131 (.tmp 40) rfl _ _ rfl [.bool false, .pointer (some ⟨B, 2 + j, none⟩)] _ Hra.out Try.underlying131 rfl (show _ = some 2 by kernel_rfl) ?_)
          | (refine wpList_alloc_zero rfl 131 rfl _ hz131 ?_)
          | (refine wpList_store_rowTo rfl 131 (.tmp 8) (.tmp 41) rfl rfl _ #[.bool false, .pointer (some ⟨B, 2 + j, none⟩)] rfl rfl 131 #[.bool false, .pointer none] HZ.out (show _ = some 2 by kernel_rfl) rfl Hone7.out ?_; rw [HW7.out]))
        go_roundw
        case rel => exact ⟨j + 1, by omega, by go_num, Lib.hid (by rw [Hs.out.1, ← xr_skip _ _ _ _ hlt Hs.out.2]; exact HN7.out), HR7⟩
        case measure => simp [intOf]; omega
      | true =>
        have Hs := Lib.hid (show Form.small b (Rd.ns b f s2 j).1 (Rd.ns b f s2 j).2 18446744073709551615 = (Rd.nv b f s2 j, (Rd.ns b f s2 (j + 1)).1, (Rd.ns b f s2 (j + 1)).2) from by have h := Hst.out; unfold Rd.nf at h; rw [if_pos rfl] at h; exact h)
        go_wp2_with (first
          | (refine wpList_load_mid rfl 131 (.tmp 40) rfl _ _ rfl [.bool true, .pointer (some ⟨B, 2 + j, none⟩)] _ Hra.out Try.underlying131 rfl (show _ = some 2 by kernel_rfl) ?_)
          | (refine wpList_alloc_zero rfl 131 rfl _ hz131 ?_)
          | (refine wpList_store_rowTo rfl 131 (.tmp 8) (.tmp 41) rfl rfl _ #[.bool true, .pointer (some ⟨B, 2 + j, none⟩)] rfl rfl 131 #[.bool false, .pointer none] HZ.out (show _ = some 2 by kernel_rfl) rfl Hone7.out ?_; rw [HW7.out]))
        have HN7d := Lib.hid (HN7.out.keep (Below.refl W7.heap.size W7).drew)
        have HR7d := Lib.hid (show W7.drew.heap[H + 1]? = some (.cells #[.bool (f 0), .pointer (some ⟨B, 2, none⟩), .bool (f 1), .pointer (some ⟨B, 3, none⟩), .bool (f 2), .pointer (some ⟨B, 4, none⟩), .bool (f 3), .pointer (some ⟨B, 5, none⟩)] 131) from HR7.out)
        have He7d := Lib.hid (show W7.drew.heap[wr.heap.size]? = some (.cells #[.bool true, .pointer (some ⟨B, 2 + j, none⟩)] 131) from He7.out)
        have hsnap : ∃ q, (xr k t (Rd.nv b f s2) j false (.slice none 0 0) (.slice none 0 0))[2 + j]? = some q := by
          have h4 : j = 0 ∨ j = 1 ∨ j = 2 ∨ j = 3 := by omega
          rcases h4 with rfl | rfl | rfl | rfl <;> exact ⟨_, rfl⟩
        obtain ⟨q, hq⟩ := hsnap
        have Hq := Lib.hid hq
        clear hq
        go_region_with (
          go_at_call 83
          go_loud (refine (rnat_w _ _ b _ _ _ HN7d.out.rd HN7d.out.bs (Hns.out j) hl).mono ?_
                   rintro r w8 ⟨n', a', e', h1, rfl, hm⟩
                   rw [Hs.out] at h1
                   cases h1
                   have HN8 := Lib.hid (HN7d.out.read HPl.out hm)
                   have HR8 := Lib.hid ((hm.2.block _ (lt_of_at HR7d.out) (by have := HPl.out.gH; have := HPl.out.RH; simp; omega)).trans HR7d.out)
                   have y1 : w8.cell? ⟨wr.heap.size, 1, none⟩ = some (.pointer (some ⟨B, 2 + j, none⟩)) := by rw [cell_of_row _ _ _ _ _ _ ((hm.2.block _ (lt_of_at He7d.out) (by have := Hgb.out; simp; omega)).trans He7d.out)]; rfl
                   have hcc := (HN8.out.at (2 + j)).trans Hq.out
                   have hff := HN8.out.thaw (2 + j)
                   clear hm))
        all_goals
          go_wp2
          go_roundw
          case rel => exact ⟨j + 1, by omega, by go_num, Lib.hid (by have h := HN8.out.put HPl.out (2 + j) (.int .u64 (Rd.nv b f s2 j : Nat)); rw [xr_set _ _ _ _ hlt] at h; exact h), Lib.hid (by rw [(Lib.grownBy_setCell w8 B _ _).block (H + 1) (lt_of_at HR8.out) (by have := HPl.out.BlH; simp; omega)]; exact HR8.out)⟩
          case measure => simp [intOf]; omega
    · have hj4 : j = 4 := by omega
      subst hj4
      clear HR Hat hlt hj
      have gw_4 : wr.cell? ⟨H, 4, none⟩ = some (.bool true) := (HN.out.flag 4).trans rfl
      have gw_5 : wr.cell? ⟨H, 5, none⟩ = some (.bool false) := (HN.out.flag 5).trans rfl
      have gw_6 : wr.cell? ⟨H, 6, none⟩ = some (.bool false) := (HN.out.flag 6).trans rfl
      have HY := Lib.hid hY
      have Hns4 := Lib.hid (Hns.out 4)
      clear hY
      have Hcq := Lib.hid (show (xr k t (Rd.nv b f s2) 4 false (.slice none 0 0) (.slice none 0 0))[6]? = some (.bool false) from rfl)
      obtain ⟨E, hE⟩ : ∃ E, Form.done b.length s5.1 s5.2 = E := ⟨_, rfl⟩
      obtain ⟨mb, hmb⟩ : ∃ mb, mayN ⟨k, t, Rd.nv b f s2 0, Rd.nv b f s2 1, Rd.nv b f s2 2, Rd.nv b f s2 3, y, [], []⟩ = mb := ⟨_, rfl⟩
      have HE := Lib.hid hE
      have HMb := Lib.hid hmb
      have HX := Lib.hid (fun (pd : Option Addr) (cd : Nat) (W : World) (h : EsG W (LF w (w.heap.size + 1) B w.heap.size H) 53 (.slice none 0 0) []) => (show NtA W (LF w (w.heap.size + 1) B w.heap.size H) (.slice none 0 0) (.slice none 0 0) ⟨k, t, Rd.nv b f s2 0, Rd.nv b f s2 1, Rd.nv b f s2 2, Rd.nv b f s2 3, y, [], []⟩ from NtA.of_list h (by omega) Htl.out (Hnv.out 0) (Hnv.out 1) (Hnv.out 2) (Hnv.out 3)))
      have HM := Lib.hid (fun (pd : Option Addr) (cd : Nat) (W : World) (h : NtA W (LF w (w.heap.size + 1) B w.heap.size H) (.slice none 0 0) (.slice none 0 0) ⟨k, t, Rd.nv b f s2 0, Rd.nv b f s2 1, Rd.nv b f s2 2, Rd.nv b f s2 3, y, [], []⟩) => (show Calls Try.prog 46 #[.agg (xr k t (Rd.nv b f s2) 4 y (.slice none 0 0) (.slice none 0 0))] W fun e w' => e = .returned (.bool mb) ∧ Below W.heap.size W w' from by rw [xr_ntv, ← hmb]; exact nmay_w ⟨k, t, Rd.nv b f s2 0, Rd.nv b f s2 1, Rd.nv b f s2 2, Rd.nv b f s2 3, y, [], []⟩ _ _ _ W h (Nat.zero_le _)))
      have Hle := Lib.hid (show s5.1 ≤ b.length from Form.flg_le (a' := s5.1) (e' := s5.2) HY.out (Hns.out 4))
      have Hrow := Lib.hid (fun (pd : Option Addr) (cd : Nat) => (show (xr k t (Rd.nv b f s2) 4 y (.slice none 0 0) (.slice none 0 0)).all (·.oneCell') = true from xr_one _ _ _ _ _ _ _ _ _ _ _))
      clear hmb Hns
      by_cases hE0 : E = 0
      · subst hE0
        cases mb with
        | true =>
          go_wp2_with (first
            | (go_at_call 84; go_loud (refine (rflag_w _ _ b _ _ _ HN.out.rd HN.out.bs (Hns4.out) hl (Hoff.out _ (Nat.le_succ _))).mono ?_; rintro r w5 ⟨f', a', e', h1, rfl, hm⟩; rw [HY.out] at h1; obtain ⟨rfl, rfl, rfl⟩ := take3 h1; clear h1; have HN5 := Lib.hid (HN.out.read HPl.out hm); have hcc := (HN5.out.at 6).trans Hcq.out; have hff := HN5.out.thaw 6; have HN6 := Lib.hid (by have h := HN5.out.put HPl.out 6 (.bool y); rw [xr_yes] at h; exact h); have HL6 := Lib.hid (setCell_nil (w := w) (g := w.heap.size + 1) (R := w.heap.size) (H := H) w5 B 6 (.bool y)); have gw5_5 := (HN6.out.flag 5).trans (show _ = some (Value.bool false) from rfl); have gw5_6 := (HN6.out.flag 6).trans (show _ = some (Value.bool false) from rfl); clear hm))
            | (go_at_call 86; go_loud (refine (done_w _ _ b _ _ _ HN6.out.rd HN6.out.bs Hle.out).mono ?_; rintro r w9 ⟨rfl, hs9⟩; rw [HE.out]; have HN9 := Lib.hid (HN6.out.keep hs9.below); have HL9 := Lib.hid (HL6.out.keeps hs9.below.block); have Hx9 := Lib.hid HN9.out.x; clear hs9))
            | (refine wpList_load31 rfl (.tmp 5) rfl rfl HN10.out.x rfl ?_)
            | (refine wpList_load31 rfl (.tmp 5) rfl rfl HN9.out.x rfl ?_)
            | (go_at_call 46; go_loud (refine (HM.out none 0 _ (HX.out none 0 _ HL9.out)).mono ?_; rintro r w10 ⟨rfl, hB⟩; have HN10 := Lib.hid (HN9.out.keep hB); have HL10 := Lib.hid (HL9.out.keeps hB.block); clear hB))
            | (refine wpList_store_rowTo rfl 31 (.tmp 2) (.tmp 86) rfl rfl _ (xr k t (Rd.nv b f s2) 4 y (.slice none 0 0) (.slice none 0 0)) rfl rfl 31 zN HN10.out.rz (show _ = some 9 by kernel_rfl) rfl (Hrow.out none 0) ?_))
          obtain ⟨hend, hres⟩ := HN10.out.end_ HPl.out (xr k t (Rd.nv b f s2) 4 y (.slice none 0 0) (.slice none 0 0))
          refine bodyPost_ret (v := .tuple #[.agg (xr k t (Rd.nv b f s2) 4 y (.slice none 0 0) (.slice none 0 0)), .int .i64 0]) (results_cell_tmp rfl _ _ w.heap.size 31 _ _ _ _ rfl rfl hres rfl Try.underlying31 (show _ = some 9 by kernel_rfl)) rfl ?_
          rw [xr_ntv]
          exact readP_yes (by rw [HE.out, HMb.out]; rfl) (((HX.out none 0 _ HL10.out).frame (setRow_sameLF _ _ _ _ _ _ _)).mono fun x _ hx => hx.1) hend
        | false =>
          go_wp2_with (first
            | (go_at_call 84; go_loud (refine (rflag_w _ _ b _ _ _ HN.out.rd HN.out.bs (Hns4.out) hl (Hoff.out _ (Nat.le_succ _))).mono ?_; rintro r w5 ⟨f', a', e', h1, rfl, hm⟩; rw [HY.out] at h1; obtain ⟨rfl, rfl, rfl⟩ := take3 h1; clear h1; have HN5 := Lib.hid (HN.out.read HPl.out hm); have hcc := (HN5.out.at 6).trans Hcq.out; have hff := HN5.out.thaw 6; have HN6 := Lib.hid (by have h := HN5.out.put HPl.out 6 (.bool y); rw [xr_yes] at h; exact h); have HL6 := Lib.hid (setCell_nil (w := w) (g := w.heap.size + 1) (R := w.heap.size) (H := H) w5 B 6 (.bool y)); have gw5_5 := (HN6.out.flag 5).trans (show _ = some (Value.bool false) from rfl); have gw5_6 := (HN6.out.flag 6).trans (show _ = some (Value.bool false) from rfl); clear hm))
            | (go_at_call 86; go_loud (refine (done_w _ _ b _ _ _ HN6.out.rd HN6.out.bs Hle.out).mono ?_; rintro r w9 ⟨rfl, hs9⟩; rw [HE.out]; have HN9 := Lib.hid (HN6.out.keep hs9.below); have HL9 := Lib.hid (HL6.out.keeps hs9.below.block); clear hs9))
            | (refine wpList_load31 rfl (.tmp 5) rfl rfl HN9.out.x rfl ?_)
            | (go_at_call 46; go_loud (refine (HM.out none 0 _ (HX.out none 0 _ HL9.out)).mono ?_; rintro r w10 ⟨rfl, hB⟩; have HN10 := Lib.hid (HN9.out.keep hB); clear hB))
            | (refine wpList_store_rowTo rfl 31 (.tmp 2) (.tmp 85) rfl rfl _ zN rfl rfl 31 zN HN10.out.rz (show _ = some 9 by kernel_rfl) rfl zN_one ?_))
          obtain ⟨hend, hres⟩ := HN10.out.end_ HPl.out zN
          refine bodyPost_ret (v := .tuple #[.agg zN, .int .i64 5]) (results_cell_tmp rfl _ _ w.heap.size 31 _ _ _ _ rfl rfl hres rfl Try.underlying31 (show _ = some 9 by kernel_rfl)) rfl ?_
          exact readP_no (by rw [HE.out, HMb.out]; rfl) hend
      · go_wp2_with (first
            | (go_at_call 84; go_loud (refine (rflag_w _ _ b _ _ _ HN.out.rd HN.out.bs (Hns4.out) hl (Hoff.out _ (Nat.le_succ _))).mono ?_; rintro r w5 ⟨f', a', e', h1, rfl, hm⟩; rw [HY.out] at h1; obtain ⟨rfl, rfl, rfl⟩ := take3 h1; clear h1; have HN5 := Lib.hid (HN.out.read HPl.out hm); have hcc := (HN5.out.at 6).trans Hcq.out; have hff := HN5.out.thaw 6; have HN6 := Lib.hid (by have h := HN5.out.put HPl.out 6 (.bool y); rw [xr_yes] at h; exact h); have HL6 := Lib.hid (setCell_nil (w := w) (g := w.heap.size + 1) (R := w.heap.size) (H := H) w5 B 6 (.bool y)); have gw5_5 := (HN6.out.flag 5).trans (show _ = some (Value.bool false) from rfl); have gw5_6 := (HN6.out.flag 6).trans (show _ = some (Value.bool false) from rfl); clear hm))
            | (go_at_call 86; go_loud (refine (done_w _ _ b _ _ _ HN6.out.rd HN6.out.bs Hle.out).mono ?_; rintro r w9 ⟨rfl, hs9⟩; rw [HE.out]; have HN9 := Lib.hid (HN6.out.keep hs9.below); clear hs9))
            | (refine wpList_store_rowTo rfl 31 (.tmp 2) (.tmp 85) rfl rfl _ zN rfl rfl 31 zN HN9.out.rz (show _ = some 9 by kernel_rfl) rfl zN_one ?_))
        obtain ⟨hend, hres⟩ := HN9.out.end_ HPl.out zN
        refine bodyPost_ret (v := .tuple #[.agg zN, .int .i64 5]) (results_cell_tmp rfl _ _ w.heap.size 31 _ _ _ _ rfl rfl hres rfl Try.underlying31 (show _ = some 9 by kernel_rfl)) rfl ?_
        exact readP_no (by rw [HE.out, decide_eq_false hE0]; rfl) hend

end Go.Proofs.Yteellfgiejnigaa
