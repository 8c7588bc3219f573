/- Walk of the law on bursts. -/
import Derived.Test.YtjkldodlnpkdaaaW8
import Derived.StillTailTactics
import Derived.WalkSpells
namespace Go.Proofs.Ytjkldodlnpkdaaa
open Go.ChangeShapes Go.WideShapes Go.ChangeAt Go.RowKit
set_option linter.unusedVariables false

set_option maxHeartbeats 800000 in
theorem bursts_w (p : Option Addr) (cp : Nat) (b : List UInt8) (at_ : Int) (bs : Nat) (hbs : bs < 2 ^ 32) (hat : -9223372036854775808 ≤ at_ ∧ at_ ≤ 9223372036854775807) (w : World) (hp : PtB w p cp b) (hle : b.length ≤ 9223372036854775807) :
    Calls Try.prog 4 #[.slice p b.length cp, .int .i64 at_, .int .u32 (bs : Int)] w fun e w' => e = .returned (.bool true) ∧ Below w.heap.size w w' := by
  have HR : Hid (RdB w (.slice p b.length cp) b) := Lib.hid ⟨p, cp, rfl, hp⟩
  clear hp
  by_cases h1 : 4 ≤ b.length
  · by_cases h2 : b.length ≤ 20000
    · by_cases h3 : bs = 0
      · subst h3
        go_enter Try.func4, Try.ntmps4
        go_wp2_with (go_at_call 10; refine (known_w _).mono ?_; rintro e w1 ⟨rfl, hb1⟩)
        go_ret
        exact ⟨rfl, hb1⟩
      · have h3' : ((bs : Int) == 0) = false := by simp; omega
        obtain ⟨m, hm, hml⟩ : ∃ m : Nat, (IntKind.u64.wrap at_).tmod (8 * (b.length : Int) - 31) = (m : Int) ∧ m + 32 ≤ 8 * b.length := by
          have hw : 0 ≤ IntKind.u64.wrap at_ := by simp [IntKind.wrap, IntKind.bits, IntKind.signed]; omega
          rw [Int.tmod_eq_emod_of_nonneg hw]
          have h5 := Int.emod_nonneg (IntKind.u64.wrap at_) (show (8 * (b.length : Int) - 31) ≠ 0 by omega)
          have h6 := Int.emod_lt_of_pos (IntKind.u64.wrap at_) (show 0 < (8 * (b.length : Int) - 31) by omega)
          obtain ⟨m, hm⟩ := Int.eq_ofNat_of_zero_le h5
          exact ⟨m, hm, by omega⟩
        go_enter Try.func4, Try.ntmps4
        go_wp2_with (first
          | (at_builtin; refine wpList_append_bytes rfl (.tmp 23) (.tmp 24) 23 rfl hel rfl (OB.new w 5) rfl (HR.out.keeps (.alloc (.refl _) _)) (by simp; omega) (by simp) ?_; go_must (intro p1 n1 c1 w1 hn1 ho1 hg1; simp only [List.nil_append] at ho1 hn1; obtain ⟨g, rfl, hgb⟩ := ho1.some (by omega); have hn1a : 4 ≤ n1 := (by omega); have hn1b : n1 ≤ 20000 := (by omega); have Hn1 := Lib.hid hn1; clear hn1; have Ho1 := Lib.hid ho1; have Hg1 := Lib.hid ((Below.refl w.heap.size w).alloc (Nat.le_refl _) (.cells #[] 5) |>.trans (below_own (OB.new w 5) hg1 (by simp))); clear ho1 hg1)))
        clear hm
        go_loopw [35, 9] (fun i _ wr => ∃ (k : Nat) (l : List UInt8), k ≤ 32 ∧ i = .int .i64 k ∧ l.length = n1 ∧ OB wr w.heap.size 5 (.slice (some ⟨g, 0, none⟩) n1 c1) l ∧ Crc.le l = Crc.le b ^^^ 2 ^ m * (bs % 2 ^ k) ∧ Below w.heap.size w wr) (fun i _ _ => 32 - (intOf i).toNat)
        case atStart => exact ⟨0, b, by omega, rfl, Hn1.out.symm, Ho1.out, by simp [Nat.mod_one], Hg1.out⟩
        case round =>
          obtain ⟨k, l, hk, rfl, hl, ho, hx, hB⟩ := hrel
          have Hl := Lib.hid hl
          have Ho := Lib.hid ho
          have Hx := Lib.hid hx
          have HB := Lib.hid hB
          clear hl ho hx hB
          by_cases hlt : k < 32
          · have hd : bits .and .u32 ((bs : Int) / 2 ^ k) 1 = ((bs / 2 ^ k % 2 : Nat) : Int) := by
              have := and1_u32 (bs / 2 ^ k) (Nat.lt_of_le_of_lt (Nat.div_le_self _ _) hbs)
              rw [← this]; congr 1
            have Hd := Lib.hid hd
            clear hd
            have hms := Crc.mod_succ bs k
            have Hms := Lib.hid hms
            clear hms
            by_cases hodd : bs / 2 ^ k % 2 = 1
            · have t1 : (bits .and .u32 ((bs : Int) / 2 ^ k) 1 == 1) = true := by rw [Hd.out, hodd]; rfl
              have Hodd := Lib.hid hodd
              clear hodd
              have hn1m := Hn1.out
              obtain ⟨q, hq⟩ : ∃ q, (m + k) / 8 = q := ⟨_, rfl⟩
              obtain ⟨r, hr⟩ : ∃ r, (m + k) % 8 = r := ⟨_, rfl⟩
              have hqn : q < n1 := by omega
              have hr8 : r < 8 := by omega
              obtain ⟨e, he⟩ : ∃ e : Nat, 2 ^ r = e := ⟨_, rfl⟩
              have he8 : e < 256 := by rw [← he]; exact Nat.pow_lt_pow_right (n := 8) (by decide) hr8
              have hw4 : IntKind.u8.wrap (2 ^ min r 8) = (e : Int) := by
                rw [Nat.min_eq_left (by omega), ← he]
                have : ((2 : Int) ^ r) = ((2 ^ r : Nat) : Int) := by simp
                rw [this, he, IntWalk.u8_in _ (by omega)]
              have hw5 : (2 : Int) ^ r % 256 = (e : Int) := by
                have : ((2 : Int) ^ r) = ((2 ^ r : Nat) : Int) := by simp
                rw [this, he]; omega
              have hw2 : IntKind.i64.wrap (((m : Int) + (k : Int)).tdiv 8) = (q : Int) := by rw [IntWalk.i64_quo _ _ (by omega)]; omega
              have hw3 : ((m : Int) + (k : Int)).tmod 8 = (r : Int) := by rw [Int.tmod_eq_emod_of_nonneg (by omega)]; omega
              have hw1 : IntKind.i64.wrap ((m : Int) + (k : Int)) = (m : Int) + (k : Int) := IntWalk.i64_in _ (by omega)
              obtain ⟨hc1, hc2, -, -⟩ := Ho.out.cell Hl.out.symm (j := q) (by rw [Hl.out]; exact hqn)
              generalize hold : l.getD q 0 = old at *
              have hx8 : bits .xor .u8 (old.toNat : Int) (e : Int) = ((old.toNat ^^^ e : Nat) : Int) := xor_u8 _ _ old.toNat_lt he8
              have hnl : old.toNat ^^^ e < 256 := Nat.xor_lt_two_pow (n := 8) old.toNat_lt he8
              obtain ⟨nb, hnb⟩ : ∃ nb : UInt8, nb.toNat = old.toNat ^^^ e := ⟨UInt8.ofNat (old.toNat ^^^ e), by rw [UInt8.toNat_ofNat']; exact Nat.mod_eq_of_lt hnl⟩
              rw [← hnb] at hx8
              have Hq := Lib.hid (And.intro hq (And.intro hr (And.intro he (And.intro hold hnb))))
              clear hq hr he hold hnb hnl hn1m
              go_wp2_with fail
              apply RegT.wp_region_T rfl 68 14 rfl (by kernel_rfl) RegT.Same RegT.Same.refl RegT.Same.trans
              · iterate 14
                  apply RegT.T_pure rfl rfl rfl
                  · intro W hR
                    have hcW := hR.cell (x := wr.drew) hc1
                    go_simp
                    rfl
                  simp only [List.set_cons_succ, List.set_cons_zero, Nat.reduceAdd]
                refine RegT.T_tail fun W hR _ => ?_
                have hcW := hR.cell (x := wr.drew) hc1
                have hfW := hR.frozen (x := wr.drew) hc2
                have HoW := Lib.hid (Ho.out.keeps (w' := W) (.of_heap hR.heap))
                have HBW := Lib.hid (HB.out.drew.trans (hR.below (x := wr.drew)))
                clear hR hc1 hc2 Ho HB
                show wpList _ _ _ [_] _ _
                go_wp2
                go_roundw
                case rel =>
                  obtain ⟨h1, h2, h3, h4, h5⟩ := Hq.out
                  refine ⟨k + 1, l.set q nb, by omega, by go_num, by rw [List.length_set]; exact Hl.out, HoW.out.set Hl.out.symm q nb, ?_, HBW.out.setCell hgb _⟩
                  rw [Crc.le_set l q r nb (by rw [Hl.out]; exact hqn) (by rw [h5, h4, h3]), Hx.out, Hms.out, Hodd.out, Nat.mul_one, Nat.xor_assoc, show 8 * q + r = m + k by omega, Nat.pow_add, ← Crc.two_mul_xor]
                case measure => simp [intOf]; omega
              · rfl
            · have t1 : (bits .and .u32 ((bs : Int) / 2 ^ k) 1 == 1) = false := by rw [Hd.out, show bs / 2 ^ k % 2 = 0 by omega]; rfl
              have Hodd := Lib.hid hodd
              clear hodd
              go_wp2
              go_roundw
              case rel =>
                refine ⟨k + 1, l, by omega, by go_num, Hl.out, Ho.out, ?_, HB.out⟩
                rw [Hms.out, show bs / 2 ^ k % 2 = 0 by have := Hodd.out; omega, Nat.mul_zero, Nat.xor_zero]; exact Hx.out
              case measure => simp [intOf]; omega
          · have hne : Crc.sum b ≠ Crc.sum l := by
              have hx := Hx.out
              rw [show k = 32 by omega, Nat.mod_eq_of_lt hbs] at hx
              exact Crc.burst b l m bs (by rw [Hl.out]; exact Hn1.out) (by omega) hbs h3 hx
            obtain ⟨s1, e1⟩ : ∃ s, Crc.sum b = s := ⟨_, rfl⟩
            obtain ⟨s2, e2⟩ : ∃ s, Crc.sum l = s := ⟨_, rfl⟩
            have hne2 : ((s1 : Int) != (s2 : Int)) = true := by
              rw [bne_iff_ne]; intro h
              exact hne (by rw [e1, e2]; exact Int.ofNat.inj h)
            have HS := Lib.hid (And.intro e1 e2)
            clear e1 e2 hne
            go_wp2_with (first
              | (go_at_call 11; (with_reducible refine (sum_one (.slice p b.length cp) b wr _ ?_ ?_ ?_ _ ?_ s1 ?_).mono ?_); (focus exact HR.out.below HB.out); (focus rfl); (focus omega); (focus rfl); (focus exact HS.out.1); rintro e w4 ⟨rfl, hb4, -⟩; have Hk4 := Lib.hid (show Keeps wr w4 from ((Keeps.refl wr).alloc (.cells #[.slice p b.length cp] 23)).trans (Below.keeps hb4)); have Hg4 := Lib.hid (next_call HB.out _ hb4); clear hb4)
              | (go_at_call 11; (with_reducible refine (sum_one (.slice (some ⟨g, 0, none⟩) n1 c1) l w4 _ ?_ ?_ ?_ _ ?_ s2 ?_).mono ?_); (focus exact (Ho.out.keeps Hk4.out).rd); (focus rfl); (focus (have := Hl.out; omega)); (focus rfl); (focus exact HS.out.2); rintro e w5 ⟨rfl, hb5, -⟩; have Hg5 := Lib.hid (next_call Hg4.out _ hb5); clear hb5)
              | (go_at_call 10; (with_reducible refine (known_w w5).mono ?_); rintro e w6 ⟨rfl, hb6⟩; have Hg6 := Lib.hid (Hg5.out.trans (hb6.mono Hg5.out.size)); clear hb6))
            go_ret
            exact ⟨rfl, Hg6.out⟩
    · go_enter Try.func4, Try.ntmps4
      go_wp2_with (go_at_call 10; refine (known_w _).mono ?_; rintro e w1 ⟨rfl, hb1⟩)
      go_ret
      exact ⟨rfl, hb1⟩
  · go_enter Try.func4, Try.ntmps4
    go_wp2_with (go_at_call 10; refine (known_w _).mono ?_; rintro e w1 ⟨rfl, hb1⟩)
    go_ret
    exact ⟨rfl, hb1⟩
end Go.Proofs.Ytjkldodlnpkdaaa
