/- Walks of the reader: Left, Int, Flag, Text, Fail. -/
import Derived.Test.YtoflehlkacofjaaQcW12
namespace Go.Proofs.Ytoflehlkacofjaa
open Go.ChangeShapes Go.WideShapes Go.ChangeAt Go.RowKit
set_option linter.unusedVariables false
namespace Form
theorem rd_cnt : ∀ (l : List UInt8) (k acc : Nat), (rd k acc l).2.1 ≤ k + l.length ∧ ((rd k acc l).2.2 ≠ 0 → (rd k acc l).2.1 = 0 ∧ (rd k acc l).1 = 0) := by
  intro l
  induction l with
  | nil => intro k acc; simp [rd]
  | cons x t ih =>
    intro k acc
    rw [rd_step]
    split
    · simp
    · split
      · split
        · simp
        · simp
      · have := ih (k + 1) (acc + x.toNat % 128 * 128 ^ k)
        refine ⟨?_, this.2⟩
        have := this.1
        simp only [List.length_cons]; omega
theorem rd_lt {l : List UInt8} {n c f : Nat} (h : rd 0 0 l = (n, c, f)) : n < 2 ^ 64 := by
  by_cases hf : f = 0
  · subst hf
    obtain ⟨m, h1, _, _, h4, _⟩ := rd_form _ _ _ _ _ h
    rw [Nat.pow_zero, Nat.mul_one] at h1 h4
    omega
  · have := (rd_cnt l 0 0).2
    rw [h] at this
    have := (this hf).2
    simp at this
    omega
theorem small_le {b : List UInt8} {a : Nat} {e : Int} {most n a' : Nat} {e' : Int} (h : small b a e most = (n, a', e')) (ha : a ≤ b.length) : a ≤ a' ∧ a' ≤ b.length ∧ n < 2 ^ 64 := by
  unfold small at h
  split at h
  · cases h; exact ⟨Nat.le_refl _, ha, by decide⟩
  · have h1 := (rd_cnt (b.drop a) 0 0).1
    rw [List.length_drop] at h1
    obtain ⟨r, hr⟩ : ∃ r, rd 0 0 (b.drop a) = r := ⟨_, rfl⟩
    obtain ⟨r1, r2, r3⟩ := r
    have h2 := rd_lt hr
    simp only [hr] at h h1
    split at h
    · split at h
      · cases h; exact ⟨Nat.le_refl _, ha, by decide⟩
      · cases h; exact ⟨by omega, by omega, h2⟩
    · cases h; exact ⟨Nat.le_refl _, ha, by decide⟩
end Form
theorem moved_set1n {w : World} {g : Nat} {v : Value} {a : Nat} {e : Int} (h : Rdr w g v a e) (a' k : Nat) (z : Int) (hz : z = (a' : Int)) : Moved w ((w.setCell ⟨g, 1, none⟩ (.int .i64 z)).drewN k) g v a' e := by
  subst hz
  exact ⟨(h.set1 a').same (drewN_same _ _), (Lib.grownBy_setCell w g 1 _).trans (same_grown (drewN_same _ _) _)⟩
theorem moved_set1m {w : World} {g : Nat} {v : Value} {a : Nat} {e : Int} (h : Rdr w g v a e) (a' k j : Nat) (z : Int) (hz : z = (a' : Int)) : Moved w (((w.drewN j).setCell ⟨g, 1, none⟩ (.int .i64 z)).drewN k) g v a' e := by
  subst hz
  have h2 := h.same (drewN_same w j)
  exact ⟨(h2.set1 a').same (drewN_same _ _), ((same_grown (drewN_same w j) _).trans (Lib.grownBy_setCell (w.drewN j) g 1 _)).trans (same_grown (drewN_same _ _) _)⟩
theorem xor_i64 (a : Nat) (ha : a < 2 ^ 63) : bits .xor .i64 (a : Int) (-1) = -(a : Int) - 1 := by
  have e : bits .xor .i64 (a : Int) (-1) = IntKind.i64.wrap (((BitVec.ofInt 64 a ^^^ BitVec.ofInt 64 (-1) : BitVec 64).toNat : Nat) : Int) := rfl
  have e1 : (BitVec.ofInt 64 (-1)) = BitVec.allOnes 64 := by decide
  rw [e, e1, BitVec.toNat_xor, BitVec.ofInt_natCast, BitVec.toNat_ofNat, BitVec.toNat_allOnes, Nat.mod_eq_of_lt (by omega), xor_ones a (by omega)]
  rw [IntKind.wrap_i64]; omega
theorem xor_i64_0 (a : Nat) (ha : a < 2 ^ 63) : bits .xor .i64 (a : Int) 0 = (a : Int) := by
  have e : bits .xor .i64 (a : Int) 0 = IntKind.i64.wrap (((BitVec.ofInt 64 a ^^^ BitVec.ofInt 64 ((0 : Nat) : Int) : BitVec 64).toNat : Nat) : Int) := rfl
  rw [e, BitVec.toNat_xor, BitVec.ofInt_natCast, BitVec.ofInt_natCast, BitVec.toNat_ofNat, BitVec.toNat_ofNat, Nat.mod_eq_of_lt (by omega), Nat.mod_eq_of_lt (by decide), Nat.xor_zero]
  rw [IntKind.wrap_i64]; omega
theorem and1_u64 (a : Nat) (ha : a < 2 ^ 64) : bits .and .u64 (a : Int) 1 = ((a % 2 : Nat) : Int) := by
  have e : bits .and .u64 (a : Int) 1 = IntKind.u64.wrap (((BitVec.ofInt 64 a &&& BitVec.ofInt 64 ((1 : Nat) : Int) : BitVec 64).toNat : Nat) : Int) := rfl
  rw [e, BitVec.toNat_and, BitVec.ofInt_natCast, BitVec.ofInt_natCast, BitVec.toNat_ofNat, BitVec.toNat_ofNat, Nat.mod_eq_of_lt ha, Nat.mod_eq_of_lt (by decide), Nat.and_one_is_mod]
  rw [IntKind.wrap_u64]; omega

theorem unfold_ways (n : Nat) (hn : n < 2 ^ 64) : ∃ q : Nat, (n : Int) / 2 = (q : Int) ∧ IntKind.i64.wrap (q : Int) = (q : Int) ∧
    ((bits .and .u64 (n : Int) 1 = 0 ∧ bits .xor .i64 (q : Int) 0 = Form.unfold_ n) ∨ (bits .and .u64 (n : Int) 1 = 1 ∧ bits .xor .i64 (q : Int) (-1) = Form.unfold_ n)) := by
  refine ⟨n / 2, by omega, IntWalk.i64_in _ (by omega), ?_⟩
  rw [and1_u64 n hn, xor_i64_0 _ (by omega), xor_i64 _ (by omega)]
  unfold Form.unfold_
  by_cases h : n % 2 = 0
  · left; rw [if_pos h, h]; exact ⟨rfl, rfl⟩
  · right; rw [if_neg h, show n % 2 = 1 by omega]; exact ⟨rfl, rfl⟩

set_option maxRecDepth 100000 in
theorem rint_w (g : Nat) (v : Value) (b : List UInt8) (a : Nat) (e : Int) (w : World) (h : Rdr w g v a e) (hb : RdB w v b) (ha : a ≤ b.length) (hl : b.length ≤ 1000000) :
    Calls Try.prog 44 #[.pointer (some ⟨g, 0, none⟩)] w fun r w' => ∃ n a' : Nat, ∃ e' : Int, Form.small b a e 18446744073709551615 = (n, a', e') ∧ r = .returned (.int .i64 (Form.unfold_ n)) ∧ Moved w w' g v a' e' := by
  have H := Lib.hid (rnat_w g v b a e w h hb ha hl)
  have Ha := Lib.hid ha
  clear h hb
  go_enter Try.func44, Try.ntmps44
  go_wp2_with (
    go_at_call 43
    refine (H.out).mono ?_
    rintro r w1 ⟨n, a', e', h1, rfl, h2⟩
    have hw := unfold_ways n (Form.small_le h1 Ha.out).2.2
    have Hfin := Lib.hid (And.intro h1 h2)
    clear h1 h2
    obtain ⟨q, e1, e2, hw⟩ := hw
    obtain ⟨u, hu⟩ : ∃ u, Form.unfold_ n = u := ⟨_, rfl⟩
    rw [hu] at hw
    have Hu := Lib.hid hu
    clear hu
    rcases hw with ⟨e3, e4⟩ | ⟨e3, e4⟩)
  all_goals go_ret
  all_goals exact ⟨n, a', e', Hfin.out.1, by rw [Hu.out]; rfl, Hfin.out.2⟩

set_option maxRecDepth 100000 in
theorem fail_w (g : Nat) (v : Value) (a : Nat) (e m : Int) (w : World) (h : Rdr w g v a e) :
    Calls Try.prog 75 #[.pointer (some ⟨g, 0, none⟩), .int .i64 m] w fun r w' => r = .returned (.tuple #[]) ∧ Moved w w' g v a (if e = 0 then m else e) := by
  have Hoff := Lib.hid (off_w g v a e w h)
  have H := Lib.hid h
  have hc2 := h.cell2
  have hf := h.frozen 2
  clear h
  by_cases h0 : e = 0
  · have hd : decide (e ≠ 0) = false := by simp [h0]
    have H0 := Lib.hid h0
    clear h0
    go_enter Try.func75, Try.ntmps75
    go_wp2_with (go_at_call 72; refine (Hoff.out).mono ?_; rintro e w1 ⟨rfl, rfl⟩)
    go_end0
    refine ⟨rfl, ?_⟩
    exact moved_set2 H.out ⟨rfl, rfl, rfl, rfl⟩ _
  · have hd : decide (e ≠ 0) = true := by simp [h0]
    have H0 := Lib.hid h0
    clear h0
    go_enter Try.func75, Try.ntmps75
    go_wp2_with (go_at_call 72; refine (Hoff.out).mono ?_; rintro e w1 ⟨rfl, rfl⟩)
    go_end0
    refine ⟨rfl, ?_⟩
    exact ⟨H.out, World.grownBy.refl _ _⟩

set_option maxRecDepth 100000 in
theorem rflag_w (g : Nat) (v : Value) (b : List UInt8) (a : Nat) (e : Int) (w : World) (h : Rdr w g v a e) (hb : RdB w v b) (ha : a ≤ b.length) (hl : b.length ≤ 1000000) (ho : Off v g) :
    Calls Try.prog 62 #[.pointer (some ⟨g, 0, none⟩)] w fun r w' => ∃ (f : Bool) (a' : Nat) (e' : Int), Form.flg b a e = (f, a', e') ∧ r = .returned (.bool f) ∧ Moved w w' g v a' e' := by
  have Hoff := Lib.hid (off_w g v a e w h)
  have H := Lib.hid h
  have hc0 := h.cell0
  have hc1 := h.cell1
  have hc2 := h.cell2
  have hf1 := h.frozen 1
  have hf2 := h.frozen 2
  have Hb := Lib.hid hb
  obtain ⟨p, c, rfl, hp⟩ := hb
  have Hp := Lib.hid hp
  clear h hp
  by_cases h0 : e = 0
  · have hd : decide (e ≠ 0) = false := by simp [h0]
    have H0 := Lib.hid h0
    by_cases hlt : a < b.length
    · obtain ⟨bq, oq, rfl, hbq, hcq⟩ := Hp.out.at hlt
      have hfl : Form.flg b a e = if 1 < (b.getD a 0).toNat then (false, a, 5) else (decide ((b.getD a 0).toNat = 1), a + 1, 0) := by
        unfold Form.flg; rw [if_neg (by simp [h0]), List.getElem?_eq_getElem hlt, getD_of_lt _ _ _ hlt]
      have hx := UInt8.toNat_lt (b.getD a 0)
      have Hfl := Lib.hid hfl
      clear hfl h0
      generalize (b.getD a 0).toNat = x at *
      have hne : decide ((a : Int) = (b.length : Int)) = false := by simp; omega
      have hne' : ((a : Int) == (b.length : Int)) = false := by simp; omega
      have hi1 : (0 : Int) ≤ (a : Int) := Int.natCast_nonneg _
      have hi2 : (a : Int) < (b.length : Int) := by omega
      have hbo := ho _ _ _ rfl (by omega)
      have hne3 : bq ≠ g := hbo
      by_cases hx1 : 1 < x
      · go_enter Try.func62, Try.ntmps62
        go_wp2_with (go_at_call 72; refine (Hoff.out).mono ?_; rintro e w1 ⟨rfl, rfl⟩)
        go_quiet (fail)
        go_wp2
        go_quiet (fail)
        go_wp2
        go_ret
        exact ⟨false, a, 5, by rw [Hfl.out, if_pos hx1], rfl, moved_set2 H.out (drewN_same _ _) _⟩
      · have hx1b : decide (1 < (x : Int)) = false := by simp; omega
        have hb1 : (a : Int) + 1 - 1 = (a : Int) := by omega
        obtain ⟨q1, hq1⟩ : ∃ q1, decide (x = 1) = q1 := ⟨_, rfl⟩
        have hq2 : ((x : Int) == 1) = q1 := by rw [← hq1, Bool.eq_iff_iff]; simp; omega
        have Hq1 := Lib.hid hq1
        clear hq1
        go_enter Try.func62, Try.ntmps62
        go_wp2_with (go_at_call 72; refine (Hoff.out).mono ?_; rintro e w1 ⟨rfl, rfl⟩)
        go_quiet (fail)
        go_wp2
        go_quiet (fail)
        go_wp2
        go_quiet (fail)
        go_wp2
        go_ret
        exact ⟨q1, a + 1, 0, by rw [Hfl.out, if_neg hx1, Hq1.out], rfl, by rw [← H0.out]; first | exact moved_set1n H.out _ _ _ (by simp) | exact moved_set1m H.out _ _ _ _ (by simp)⟩
    · have hfl : Form.flg b a e = (false, a, 4) := by
        unfold Form.flg; rw [if_neg (by simp [h0]), List.getElem?_eq_none (by omega)]
      have hne : decide ((a : Int) = (b.length : Int)) = true := by simp; omega
      have hne' : ((a : Int) == (b.length : Int)) = true := by simp; omega
      have Hfl := Lib.hid hfl
      clear hfl h0
      go_enter Try.func62, Try.ntmps62
      go_wp2_with (go_at_call 72; refine (Hoff.out).mono ?_; rintro e w1 ⟨rfl, rfl⟩)
      go_quiet (fail)
      go_wp2
      go_ret
      exact ⟨false, a, 4, Hfl.out, rfl, moved_set2 H.out (drewN_same _ _) _⟩
  · have hd : decide (e ≠ 0) = true := by simp [h0]
    have H0 := Lib.hid h0
    clear h0
    go_enter Try.func62, Try.ntmps62
    go_wp2_with (go_at_call 72; refine (Hoff.out).mono ?_; rintro e w1 ⟨rfl, rfl⟩)
    go_ret
    exact ⟨false, a, e, by unfold Form.flg; rw [if_pos H0.out], rfl, H.out, World.grownBy.refl _ _⟩
end Go.Proofs.Ytoflehlkacofjaa
