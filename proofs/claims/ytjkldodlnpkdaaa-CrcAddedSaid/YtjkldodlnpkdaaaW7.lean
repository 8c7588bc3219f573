/- Walk of the law on sums that are added. -/
import Derived.Test.YtjkldodlnpkdaaaW6
import Derived.Test.YtjkldodlnpkdaaaReg
import Derived.Deep.RegionHeld3
import Derived.StillTailTactics
namespace Go.Proofs.Ytjkldodlnpkdaaa
open Go.ChangeShapes Go.WideShapes Go.ChangeAt Go.RowKit
set_option linter.unusedVariables false

theorem min3_run (P : Program) (a b c n : Nat) (hn : n = min (min a b) c) (W : World) : (Builtin.min_ #[3, 3, 3] 3 #[.int .i64 (a : Int), .int .i64 (b : Int), .int .i64 (c : Int)]).run P W = .ok (.int .i64 (n : Int)) W := by
  subst hn
  simp only [Builtin.min_, List.foldlM_cons, List.foldlM_nil, Builtin.min2, Sem.run_bind, Sem.run_pure, Result.andThen_ok]
  congr 2
  split <;> split <;> omega

set_option maxHeartbeats 400000 in
theorem added_w (p1 p2 p3 : Option Addr) (c1 c2 c3 : Nat) (l1 l2 l3 : List UInt8) (w : World) (hr1 : PtB w p1 c1 l1) (hr2 : PtB w p2 c2 l2) (hr3 : PtB w p3 c3 l3)
    (hb1 : l1.length ≤ 9223372036854775807) (hb2 : l2.length ≤ 9223372036854775807) (hb3 : l3.length ≤ 9223372036854775807) :
    Calls Try.prog 5 #[.slice p1 l1.length c1, .slice p2 l2.length c2, .slice p3 l3.length c3] w fun e w' => e = .returned (.bool true) ∧ Below w.heap.size w w' := by
  have Hr1 := Lib.hid hr1
  have Hr2 := Lib.hid hr2
  have Hr3 := Lib.hid hr3
  clear hr1 hr2 hr3
  obtain ⟨n, hn⟩ : ∃ n, n = min (min l1.length l2.length) l3.length := ⟨_, rfl⟩
  have hmin := min3_run Try.prog l1.length l2.length l3.length n hn
  have hn1 : n ≤ l1.length := by omega
  have hn2 : n ≤ l2.length := by omega
  have hn3 : n ≤ l3.length := by omega
  have Hn := Lib.hid hn
  clear hn
  by_cases hbig : n ≤ 20000
  · have hD : (List.zipWith (· ^^^ ·) (List.zipWith (· ^^^ ·) (l1.take n) (l2.take n)) (l3.take n)).length = n := by simp; omega
    have hDk : ∀ k, k < n → ((List.zipWith (· ^^^ ·) (List.zipWith (· ^^^ ·) (l1.take n) (l2.take n)) (l3.take n)).getD k 0).toNat = ((l1.getD k 0).toNat ^^^ (l2.getD k 0).toNat) ^^^ (l3.getD k 0).toNat := by
      intro k hk
      rw [getD_of_lt _ _ _ (by omega), getD_of_lt _ _ _ (by omega : k < l1.length), getD_of_lt _ _ _ (by omega : k < l2.length), getD_of_lt _ _ _ (by omega : k < l3.length)]
      simp
    have hsum := Crc.added (l1.take n) (l2.take n) (l3.take n) (by simp; omega) (by simp; omega)
    generalize List.zipWith (· ^^^ ·) (List.zipWith (· ^^^ ·) (l1.take n) (l2.take n)) (l3.take n) = D at *
    have HDk := Lib.hid hDk
    have Hsum := Lib.hid hsum
    have HD := Lib.hid hD
    clear hDk hsum hD
    have hsz : (Try.prog.info? 5).map (·.size) = some 1 := by kernel_rfl
    have hs1 := run_slice_hi 23 5 Try.underlying23 1 hsz p1 l1.length c1 n (Nat.le_trans hn1 Hr1.out.2.1)
    have hs2 := run_slice_hi 23 5 Try.underlying23 1 hsz p2 l2.length c2 n (Nat.le_trans hn2 Hr2.out.2.1)
    have hs3 := run_slice_hi 23 5 Try.underlying23 1 hsz p3 l3.length c3 n (Nat.le_trans hn3 Hr3.out.2.1)
    clear hsz
    go_enter Try.func5, Try.ntmps5
    go_wp2_with (refine wpList_make_bytes rfl (.tmp 20) (.tmp 20) 23 rfl hel n rfl rfl (by omega) ?_; intro w1 hown hb hlt)
    have Hown := Lib.hid hown
    have Hb := Lib.hid hb
    clear hown hb
    go_loopw [24, 9] (fun i _ wr => ∃ k : Nat, k ≤ n ∧ i = .int .i64 k ∧ OB wr w.heap.size 5 (.slice (some ⟨w.heap.size, 0, none⟩) n n) (D.take k ++ List.replicate (n - k) 0) ∧ Below w.heap.size w wr) (fun i _ _ => n - (intOf i).toNat)
    case atStart => exact ⟨0, by omega, rfl, by simpa using Hown.out, Hb.out⟩
    case round =>
      obtain ⟨k, hk, rfl, ho, hB⟩ := hrel
      have Ho := Lib.hid ho
      have HB := Lib.hid hB
      clear ho hB
      by_cases hlt : k < n
      · obtain ⟨b1, o1, rfl, hw1, hc1⟩ := (Hr1.out.below HB.out).at (k := k) (by omega)
        obtain ⟨b2, o2, rfl, hw2, hc2⟩ := (Hr2.out.below HB.out).at (k := k) (by omega)
        obtain ⟨b3, o3, rfl, hw3, hc3⟩ := (Hr3.out.below HB.out).at (k := k) (by omega)
        obtain ⟨hd1, hd2, hd3, -⟩ := Ho.out.cell (by have := HD.out; simp; omega) (j := k) (by have := HD.out; simp; omega)
        clear hw1 hw2 hw3
        have hk := HDk.out k hlt
        generalize l1.getD k 0 = x1 at *
        generalize l2.getD k 0 = x2 at *
        generalize l3.getD k 0 = x3 at *
        have hx12 : bits .xor .u8 (x1.toNat : Int) (x2.toNat : Int) = ((x1.toNat ^^^ x2.toNat : Nat) : Int) := xor_u8 _ _ x1.toNat_lt x2.toNat_lt
        have hx123 : bits .xor .u8 ((x1.toNat ^^^ x2.toNat : Nat) : Int) (x3.toNat : Int) = ((D.getD k 0).toNat : Int) := by rw [hk]; exact xor_u8 _ _ (Nat.xor_lt_two_pow (n := 8) x1.toNat_lt x2.toNat_lt) x3.toNat_lt
        generalize hdk : D.getD k 0 = dk at *
        generalize (D.take k ++ List.replicate (n - k) 0).getD k 0 = old at *
        have Hdk := Lib.hid hdk
        clear hdk hk
        clear hs1 hs2 hs3
        have hi0 : (0 : Int) ≤ (k : Int) := Int.natCast_nonneg _
        have hi1 : (k : Int) < (l1.length : Int) := by omega
        have hi2 : (k : Int) < (l2.length : Int) := by omega
        have hi3 : (k : Int) < (l3.length : Int) := by omega
        have hi4 : (k : Int) < (n : Int) := by omega
        go_wp2_with fail
        go_still_tail 17, (by kernel_rfl)
        have Ho2 : Hid (OB wr.drew w.heap.size 5 (.slice (some ⟨w.heap.size, 0, none⟩) n n) (D.take k ++ List.replicate (n - k) 0)) := Lib.hid Ho.out
        have HB2 : Hid (Below w.heap.size w wr.drew) := Lib.hid HB.out.drew
        have hd1' : wr.drew.cell? ⟨w.heap.size, k, none⟩ = some (.int .u8 (old.toNat : Int)) := hd1
        have hd2' : wr.drew.frozen? ⟨w.heap.size, k, none⟩ = false := hd2
        clear Ho HB hd1 hd2 hc1 hc2 hc3 hd3
        change wpList _ _ _ _ _ wr.drew
        generalize wr.drew = W at *
        go_wp2
        go_roundw
        case rel =>
          refine ⟨k + 1, by omega, by go_num, ?_, HB2.out.setCell (Nat.le_refl _) _⟩
          have := Ho2.out.set (by have := HD.out; simp; omega) k dk
          have e : (D.take k ++ List.replicate (n - k) 0).set k dk = D.take (k + 1) ++ List.replicate (n - (k + 1)) 0 := by
            have hD := HD.out
            rw [List.set_append_right _ _ (by simp; omega), List.take_succ_eq_append_getElem (by omega), show n - k = (n - (k + 1)) + 1 by omega, List.replicate_succ, List.length_take, Nat.min_eq_left (by omega), Nat.sub_self, List.set_cons_zero, ← getD_of_lt D k 0 (by omega), Hdk.out]
            simp
          rw [e] at this
          exact this
        case measure => simp [intOf]; omega
      · have hkn : k = n := by omega
        have ho := Ho.out
        rw [hkn, Nat.sub_self, List.replicate_zero, List.append_nil, List.take_of_length_le (by have := HD.out; omega)] at ho
        have Ho3 := Lib.hid ho
        clear ho hkn Ho
        have HR1 : Hid (RdB wr (.slice p1 n c1) (l1.take n)) := Lib.hid ⟨p1, c1, by rw [List.length_take, Nat.min_eq_left hn1], (Hr1.out.below HB.out).take n⟩
        have HR2 : Hid (RdB wr (.slice p2 n c2) (l2.take n)) := Lib.hid ⟨p2, c2, by rw [List.length_take, Nat.min_eq_left hn2], (Hr2.out.below HB.out).take n⟩
        have HR3 : Hid (RdB wr (.slice p3 n c3) (l3.take n)) := Lib.hid ⟨p3, c3, by rw [List.length_take, Nat.min_eq_left hn3], (Hr3.out.below HB.out).take n⟩
        have HR4 : Hid (RdB wr (.slice (some ⟨w.heap.size, 0, none⟩) n n) D) := by have := Ho3.out.rd; exact this
        have hzr := HB.out.size
        obtain ⟨s1, e1⟩ : ∃ s, Crc.sum (l1.take n) = s := ⟨_, rfl⟩
        obtain ⟨s2, e2⟩ : ∃ s, Crc.sum (l2.take n) = s := ⟨_, rfl⟩
        obtain ⟨s3, e3⟩ : ∃ s, Crc.sum (l3.take n) = s := ⟨_, rfl⟩
        obtain ⟨s4, e4⟩ : ∃ s, Crc.sum D = s := ⟨_, rfl⟩
        have hs := Hsum.out
        have hlt1 : s1 < 2 ^ 32 := e1 ▸ Crc.sum_lt _
        have hlt2 : s2 < 2 ^ 32 := e2 ▸ Crc.sum_lt _
        have hlt3 : s3 < 2 ^ 32 := e3 ▸ Crc.sum_lt _
        rw [e1, e2, e3, e4] at hs
        have HS := Lib.hid (And.intro e1 (And.intro e2 (And.intro e3 e4)))
        clear e1 e2 e3 e4
        have hx1 : bits .xor .u32 (s1 : Int) (s2 : Int) = ((s1 ^^^ s2 : Nat) : Int) := xor_u32 _ _ hlt1 hlt2
        have hx2 : bits .xor .u32 ((s1 ^^^ s2 : Nat) : Int) (s3 : Int) = (s4 : Int) := by rw [hs]; exact xor_u32 _ _ (Nat.xor_lt_two_pow hlt1 hlt2) hlt3
        clear hs
        generalize s1 ^^^ s2 = s12 at *
        go_wp2_with fail
        clear hmin hn1 hn2 hn3 hbig hlt hk
        apply RegT.wp_region_T rfl 69 25 rfl (by kernel_rfl) RegT.Grow RegT.Grow.refl RegT.Grow.trans
        · iterate 3
            apply RegT.T_pure rfl rfl rfl
            · intro W hR; go_simp; rfl
            simp only [List.set_cons_succ, List.set_cons_zero, Nat.reduceAdd]
          apply RegT.T_pred rfl rfl rfl (OneB (l1.take n)) (fun v x y hR h => OneB.grow h hR)
          · intro W hR _
            go_simp
            exact RegT.OpOK_value (OneB_new (HR1.out.keeps hR.block))
          intro v_
          simp only [List.set_cons_succ, List.set_cons_zero, Nat.reduceAdd]
          apply RegT.T_const rfl rfl rfl (.int .u32 s1)
          · intro W hR hf
            have h4 := hf _ (.head _) (by kernel_rfl)
            have H4 := Lib.hid h4
            clear h4 hf
            go_simp
            exact sum_ok H4.out (by simp; omega) _ HS.out.1
          simp only [List.set_cons_succ, List.set_cons_zero, Nat.reduceAdd]
          iterate 3
            apply RegT.T_pure rfl rfl rfl
            · intro W hR; go_simp; rfl
            simp only [List.set_cons_succ, List.set_cons_zero, Nat.reduceAdd]
          apply RegT.T_pred rfl rfl rfl (OneB (l2.take n)) (fun v x y hR h => OneB.grow h hR)
          · intro W hR _
            go_simp
            exact RegT.OpOK_value (OneB_new (HR2.out.keeps hR.block))
          intro v_
          simp only [List.set_cons_succ, List.set_cons_zero, Nat.reduceAdd]
          apply RegT.T_const rfl rfl rfl (.int .u32 s2)
          · intro W hR hf
            have h4 := hf _ (.head _) (by kernel_rfl)
            have H4 := Lib.hid h4
            clear h4 hf
            go_simp
            exact sum_ok H4.out (by simp; omega) _ HS.out.2.1
          simp only [List.set_cons_succ, List.set_cons_zero, Nat.reduceAdd]
          iterate 4
            apply RegT.T_pure rfl rfl rfl
            · intro W hR; go_simp; rfl
            simp only [List.set_cons_succ, List.set_cons_zero, Nat.reduceAdd]
          apply RegT.T_pred rfl rfl rfl (OneB (l3.take n)) (fun v x y hR h => OneB.grow h hR)
          · intro W hR _
            go_simp
            exact RegT.OpOK_value (OneB_new (HR3.out.keeps hR.block))
          intro v_
          simp only [List.set_cons_succ, List.set_cons_zero, Nat.reduceAdd]
          apply RegT.T_const rfl rfl rfl (.int .u32 s3)
          · intro W hR hf
            have h4 := hf _ (.head _) (by kernel_rfl)
            have H4 := Lib.hid h4
            clear h4 hf
            go_simp
            exact sum_ok H4.out (by simp; omega) _ HS.out.2.2.1
          simp only [List.set_cons_succ, List.set_cons_zero, Nat.reduceAdd]
          iterate 2
            apply RegT.T_pure rfl rfl rfl
            · intro W hR; go_simp; rfl
            simp only [List.set_cons_succ, List.set_cons_zero, Nat.reduceAdd]
          apply RegT.T_pred rfl rfl rfl (OneB D) (fun v x y hR h => OneB.grow h hR)
          · intro W hR _
            go_simp
            exact RegT.OpOK_value (OneB_new (HR4.out.keeps hR.block))
          intro v_
          simp only [List.set_cons_succ, List.set_cons_zero, Nat.reduceAdd]
          apply RegT.T_const rfl rfl rfl (.int .u32 s4)
          · intro W hR hf
            have h4 := hf _ (.head _) (by kernel_rfl)
            have H4 := Lib.hid h4
            clear h4 hf
            go_simp
            exact sum_ok H4.out (by have := HD.out; omega) _ HS.out.2.2.2
          simp only [List.set_cons_succ, List.set_cons_zero, Nat.reduceAdd]
          iterate 2
            apply RegT.T_pure rfl rfl rfl
            · intro W hR; go_simp; rfl
            simp only [List.set_cons_succ, List.set_cons_zero, Nat.reduceAdd]
          apply RegT.T_const rfl rfl rfl (.bool true)
          · intro W hR _
            go_simp
            exact known_ok W
          simp only [List.set_cons_succ, List.set_cons_zero, Nat.reduceAdd]
          iterate 2
            apply RegT.T_pure rfl rfl rfl
            · intro W hR; go_simp; rfl
            simp only [List.set_cons_succ, List.set_cons_zero, Nat.reduceAdd]
          refine RegT.T_end rfl fun W hR _ => ?_
          have HW := Lib.hid (HB.out.drew.trans (hR.mono HB.out.size))
          clear hR
          go_wp2
          go_ret
          exact ⟨rfl, HW.out⟩
        · rfl
  · go_enter Try.func5, Try.ntmps5
    go_wp2_with (go_at_call 10; refine (known_w _).mono ?_; rintro e w1 ⟨rfl, hb1⟩)
    go_ret
    exact ⟨rfl, hb1⟩
end Go.Proofs.Ytjkldodlnpkdaaa
