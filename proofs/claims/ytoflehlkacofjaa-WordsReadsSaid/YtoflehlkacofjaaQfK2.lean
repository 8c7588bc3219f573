/- K2: W13, W14, W16, W17, W18, W19, W21, S1, S2, S3, S4, S5. -/
import Derived.Test.YtoflehlkacofjaaQfK1
import Derived.Deep.RegionHeld3
import Derived.Deep.RegionWith
import Derived.Lib.SmallJoins
import Derived.Deep.MidRow
import Derived.Laws.Rows
import Derived.Maps.AppendAt
/- Walks of the reader: Left, Int, Flag, Text, Fail. -/
namespace Go.Proofs.Ytoflehlkacofjaa
open Go.ChangeShapes Go.WideShapes Go.ChangeAt Go.RowKit
set_option linter.unusedVariables false
namespace Form
theorem rd_cnt : ∀ (l : List UInt8) (k acc : Nat), (rd k acc l).2.1 ≤ k + l.length ∧ ((rd k acc l).2.2 ≠ 0 → (rd k acc l).2.1 = 0 ∧ (rd k acc l).1 = 0) := by
  intro l
  induction l with
  | nil => intro k acc; simp [rd]
  | cons x t ih =>
    intro k acc
    rw [rd_step]
    split
    · simp
    · split
      · split
        · simp
        · simp
      · have := ih (k + 1) (acc + x.toNat % 128 * 128 ^ k)
        refine ⟨?_, this.2⟩
        have := this.1
        simp only [List.length_cons]; omega
theorem rd_lt {l : List UInt8} {n c f : Nat} (h : rd 0 0 l = (n, c, f)) : n < 2 ^ 64 := by
  by_cases hf : f = 0
  · subst hf
    obtain ⟨m, h1, _, _, h4, _⟩ := rd_form _ _ _ _ _ h
    rw [Nat.pow_zero, Nat.mul_one] at h1 h4
    omega
  · have := (rd_cnt l 0 0).2
    rw [h] at this
    have := (this hf).2
    simp at this
    omega
theorem small_le {b : List UInt8} {a : Nat} {e : Int} {most n a' : Nat} {e' : Int} (h : small b a e most = (n, a', e')) (ha : a ≤ b.length) : a ≤ a' ∧ a' ≤ b.length ∧ n < 2 ^ 64 := by
  unfold small at h
  split at h
  · cases h; exact ⟨Nat.le_refl _, ha, by decide⟩
  · have h1 := (rd_cnt (b.drop a) 0 0).1
    rw [List.length_drop] at h1
    obtain ⟨r, hr⟩ : ∃ r, rd 0 0 (b.drop a) = r := ⟨_, rfl⟩
    obtain ⟨r1, r2, r3⟩ := r
    have h2 := rd_lt hr
    simp only [hr] at h h1
    split at h
    · split at h
      · cases h; exact ⟨Nat.le_refl _, ha, by decide⟩
      · cases h; exact ⟨by omega, by omega, h2⟩
    · cases h; exact ⟨Nat.le_refl _, ha, by decide⟩
end Form
theorem moved_set1n {w : World} {g : Nat} {v : Value} {a : Nat} {e : Int} (h : Rdr w g v a e) (a' k : Nat) (z : Int) (hz : z = (a' : Int)) : Moved w ((w.setCell ⟨g, 1, none⟩ (.int .i64 z)).drewN k) g v a' e := by
  subst hz
  exact ⟨(h.set1 a').same (drewN_same _ _), (Lib.grownBy_setCell w g 1 _).trans (same_grown (drewN_same _ _) _)⟩
theorem moved_set1m {w : World} {g : Nat} {v : Value} {a : Nat} {e : Int} (h : Rdr w g v a e) (a' k j : Nat) (z : Int) (hz : z = (a' : Int)) : Moved w (((w.drewN j).setCell ⟨g, 1, none⟩ (.int .i64 z)).drewN k) g v a' e := by
  subst hz
  have h2 := h.same (drewN_same w j)
  exact ⟨(h2.set1 a').same (drewN_same _ _), ((same_grown (drewN_same w j) _).trans (Lib.grownBy_setCell (w.drewN j) g 1 _)).trans (same_grown (drewN_same _ _) _)⟩
set_option maxRecDepth 100000 in
theorem left_w (g : Nat) (v : Value) (b : List UInt8) (a : Nat) (e : Int) (w : World) (h : Rdr w g v a e) (hb : RdB w v b) (ha : a ≤ b.length) (hl : b.length ≤ 1000000) :
    Calls Try.prog 74 #[.pointer (some ⟨g, 0, none⟩)] w fun r w' => r = .returned (.int .i64 ((b.length - a : Nat) : Int)) ∧ RegT.Same w w' := by
  obtain ⟨p, c, rfl, hp⟩ := hb
  have hc0 := h.cell0
  have hc1 := h.cell1
  obtain ⟨m, hm⟩ : ∃ m, m = b.length - a := ⟨_, rfl⟩
  have e1 : IntKind.i64.wrap ((b.length : Int) - (a : Int)) = (m : Int) := by rw [show (b.length : Int) - (a : Int) = (m : Int) by omega]; exact IntWalk.i64_in _ (by omega)
  have e2 : (b.length : Int) - (a : Int) = (m : Int) := by omega
  rw [← hm]
  clear h hp hm
  go_enter Try.func74, Try.ntmps74
  go_wp2
  go_quiet (fail)
  go_wp2
  go_ret
  exact ⟨rfl, ⟨rfl, rfl, rfl, rfl⟩⟩

theorem xor_i64 (a : Nat) (ha : a < 2 ^ 63) : bits .xor .i64 (a : Int) (-1) = -(a : Int) - 1 := by
  have e : bits .xor .i64 (a : Int) (-1) = IntKind.i64.wrap (((BitVec.ofInt 64 a ^^^ BitVec.ofInt 64 (-1) : BitVec 64).toNat : Nat) : Int) := rfl
  have e1 : (BitVec.ofInt 64 (-1)) = BitVec.allOnes 64 := by decide
  rw [e, e1, BitVec.toNat_xor, BitVec.ofInt_natCast, BitVec.toNat_ofNat, BitVec.toNat_allOnes, Nat.mod_eq_of_lt (by omega), xor_ones a (by omega)]
  rw [IntKind.wrap_i64]; omega
theorem xor_i64_0 (a : Nat) (ha : a < 2 ^ 63) : bits .xor .i64 (a : Int) 0 = (a : Int) := by
  have e : bits .xor .i64 (a : Int) 0 = IntKind.i64.wrap (((BitVec.ofInt 64 a ^^^ BitVec.ofInt 64 ((0 : Nat) : Int) : BitVec 64).toNat : Nat) : Int) := rfl
  rw [e, BitVec.toNat_xor, BitVec.ofInt_natCast, BitVec.ofInt_natCast, BitVec.toNat_ofNat, BitVec.toNat_ofNat, Nat.mod_eq_of_lt (by omega), Nat.mod_eq_of_lt (by decide), Nat.xor_zero]
  rw [IntKind.wrap_i64]; omega
theorem and1_u64 (a : Nat) (ha : a < 2 ^ 64) : bits .and .u64 (a : Int) 1 = ((a % 2 : Nat) : Int) := by
  have e : bits .and .u64 (a : Int) 1 = IntKind.u64.wrap (((BitVec.ofInt 64 a &&& BitVec.ofInt 64 ((1 : Nat) : Int) : BitVec 64).toNat : Nat) : Int) := rfl
  rw [e, BitVec.toNat_and, BitVec.ofInt_natCast, BitVec.ofInt_natCast, BitVec.toNat_ofNat, BitVec.toNat_ofNat, Nat.mod_eq_of_lt ha, Nat.mod_eq_of_lt (by decide), Nat.and_one_is_mod]
  rw [IntKind.wrap_u64]; omega

theorem unfold_ways (n : Nat) (hn : n < 2 ^ 64) : ∃ q : Nat, (n : Int) / 2 = (q : Int) ∧ IntKind.i64.wrap (q : Int) = (q : Int) ∧
    ((bits .and .u64 (n : Int) 1 = 0 ∧ bits .xor .i64 (q : Int) 0 = Form.unfold_ n) ∨ (bits .and .u64 (n : Int) 1 = 1 ∧ bits .xor .i64 (q : Int) (-1) = Form.unfold_ n)) := by
  refine ⟨n / 2, by omega, IntWalk.i64_in _ (by omega), ?_⟩
  rw [and1_u64 n hn, xor_i64_0 _ (by omega), xor_i64 _ (by omega)]
  unfold Form.unfold_
  by_cases h : n % 2 = 0
  · left; rw [if_pos h, h]; exact ⟨rfl, rfl⟩
  · right; rw [if_neg h, show n % 2 = 1 by omega]; exact ⟨rfl, rfl⟩

set_option maxRecDepth 100000 in
theorem rint_w (g : Nat) (v : Value) (b : List UInt8) (a : Nat) (e : Int) (w : World) (h : Rdr w g v a e) (hb : RdB w v b) (ha : a ≤ b.length) (hl : b.length ≤ 1000000) :
    Calls Try.prog 44 #[.pointer (some ⟨g, 0, none⟩)] w fun r w' => ∃ n a' : Nat, ∃ e' : Int, Form.small b a e 18446744073709551615 = (n, a', e') ∧ r = .returned (.int .i64 (Form.unfold_ n)) ∧ Moved w w' g v a' e' := by
  have H := Lib.hid (rnat_w g v b a e w h hb ha hl)
  have Ha := Lib.hid ha
  clear h hb
  go_enter Try.func44, Try.ntmps44
  go_wp2_with (
    go_at_call 43
    refine (H.out).mono ?_
    rintro r w1 ⟨n, a', e', h1, rfl, h2⟩
    have hw := unfold_ways n (Form.small_le h1 Ha.out).2.2
    have Hfin := Lib.hid (And.intro h1 h2)
    clear h1 h2
    obtain ⟨q, e1, e2, hw⟩ := hw
    obtain ⟨u, hu⟩ : ∃ u, Form.unfold_ n = u := ⟨_, rfl⟩
    rw [hu] at hw
    have Hu := Lib.hid hu
    clear hu
    rcases hw with ⟨e3, e4⟩ | ⟨e3, e4⟩)
  all_goals go_ret
  all_goals exact ⟨n, a', e', Hfin.out.1, by rw [Hu.out]; rfl, Hfin.out.2⟩

set_option maxRecDepth 100000 in
theorem fail_w (g : Nat) (v : Value) (a : Nat) (e m : Int) (w : World) (h : Rdr w g v a e) :
    Calls Try.prog 75 #[.pointer (some ⟨g, 0, none⟩), .int .i64 m] w fun r w' => r = .returned (.tuple #[]) ∧ Moved w w' g v a (if e = 0 then m else e) := by
  have Hoff := Lib.hid (off_w g v a e w h)
  have H := Lib.hid h
  have hc2 := h.cell2
  have hf := h.frozen 2
  clear h
  by_cases h0 : e = 0
  · have hd : decide (e ≠ 0) = false := by simp [h0]
    have H0 := Lib.hid h0
    clear h0
    go_enter Try.func75, Try.ntmps75
    go_wp2_with (go_at_call 72; refine (Hoff.out).mono ?_; rintro e w1 ⟨rfl, rfl⟩)
    go_end0
    refine ⟨rfl, ?_⟩
    exact moved_set2 H.out ⟨rfl, rfl, rfl, rfl⟩ _
  · have hd : decide (e ≠ 0) = true := by simp [h0]
    have H0 := Lib.hid h0
    clear h0
    go_enter Try.func75, Try.ntmps75
    go_wp2_with (go_at_call 72; refine (Hoff.out).mono ?_; rintro e w1 ⟨rfl, rfl⟩)
    go_end0
    refine ⟨rfl, ?_⟩
    exact ⟨H.out, World.grownBy.refl _ _⟩

set_option maxRecDepth 100000 in
theorem rflag_w (g : Nat) (v : Value) (b : List UInt8) (a : Nat) (e : Int) (w : World) (h : Rdr w g v a e) (hb : RdB w v b) (ha : a ≤ b.length) (hl : b.length ≤ 1000000) (ho : Off v g) :
    Calls Try.prog 62 #[.pointer (some ⟨g, 0, none⟩)] w fun r w' => ∃ (f : Bool) (a' : Nat) (e' : Int), Form.flg b a e = (f, a', e') ∧ r = .returned (.bool f) ∧ Moved w w' g v a' e' := by
  have Hoff := Lib.hid (off_w g v a e w h)
  have H := Lib.hid h
  have hc0 := h.cell0
  have hc1 := h.cell1
  have hc2 := h.cell2
  have hf1 := h.frozen 1
  have hf2 := h.frozen 2
  have Hb := Lib.hid hb
  obtain ⟨p, c, rfl, hp⟩ := hb
  have Hp := Lib.hid hp
  clear h hp
  by_cases h0 : e = 0
  · have hd : decide (e ≠ 0) = false := by simp [h0]
    have H0 := Lib.hid h0
    by_cases hlt : a < b.length
    · obtain ⟨bq, oq, rfl, hbq, hcq⟩ := Hp.out.at hlt
      have hfl : Form.flg b a e = if 1 < (b.getD a 0).toNat then (false, a, 5) else (decide ((b.getD a 0).toNat = 1), a + 1, 0) := by
        unfold Form.flg; rw [if_neg (by simp [h0]), List.getElem?_eq_getElem hlt, getD_of_lt _ _ _ hlt]
      have hx := UInt8.toNat_lt (b.getD a 0)
      have Hfl := Lib.hid hfl
      clear hfl h0
      generalize (b.getD a 0).toNat = x at *
      have hne : decide ((a : Int) = (b.length : Int)) = false := by simp; omega
      have hne' : ((a : Int) == (b.length : Int)) = false := by simp; omega
      have hi1 : (0 : Int) ≤ (a : Int) := Int.natCast_nonneg _
      have hi2 : (a : Int) < (b.length : Int) := by omega
      have hbo := ho _ _ _ rfl (by omega)
      have hne3 : bq ≠ g := hbo
      by_cases hx1 : 1 < x
      · go_enter Try.func62, Try.ntmps62
        go_wp2_with (go_at_call 72; refine (Hoff.out).mono ?_; rintro e w1 ⟨rfl, rfl⟩)
        go_quiet (fail)
        go_wp2
        go_quiet (fail)
        go_wp2
        go_ret
        exact ⟨false, a, 5, by rw [Hfl.out, if_pos hx1], rfl, moved_set2 H.out (drewN_same _ _) _⟩
      · have hx1b : decide (1 < (x : Int)) = false := by simp; omega
        have hb1 : (a : Int) + 1 - 1 = (a : Int) := by omega
        obtain ⟨q1, hq1⟩ : ∃ q1, decide (x = 1) = q1 := ⟨_, rfl⟩
        have hq2 : ((x : Int) == 1) = q1 := by rw [← hq1, Bool.eq_iff_iff]; simp; omega
        have Hq1 := Lib.hid hq1
        clear hq1
        go_enter Try.func62, Try.ntmps62
        go_wp2_with (go_at_call 72; refine (Hoff.out).mono ?_; rintro e w1 ⟨rfl, rfl⟩)
        go_quiet (fail)
        go_wp2
        go_quiet (fail)
        go_wp2
        go_quiet (fail)
        go_wp2
        go_ret
        exact ⟨q1, a + 1, 0, by rw [Hfl.out, if_neg hx1, Hq1.out], rfl, by rw [← H0.out]; first | exact moved_set1n H.out _ _ _ (by simp) | exact moved_set1m H.out _ _ _ _ (by simp)⟩
    · have hfl : Form.flg b a e = (false, a, 4) := by
        unfold Form.flg; rw [if_neg (by simp [h0]), List.getElem?_eq_none (by omega)]
      have hne : decide ((a : Int) = (b.length : Int)) = true := by simp; omega
      have hne' : ((a : Int) == (b.length : Int)) = true := by simp; omega
      have Hfl := Lib.hid hfl
      clear hfl h0
      go_enter Try.func62, Try.ntmps62
      go_wp2_with (go_at_call 72; refine (Hoff.out).mono ?_; rintro e w1 ⟨rfl, rfl⟩)
      go_quiet (fail)
      go_wp2
      go_ret
      exact ⟨false, a, 4, Hfl.out, rfl, moved_set2 H.out (drewN_same _ _) _⟩
  · have hd : decide (e ≠ 0) = true := by simp [h0]
    have H0 := Lib.hid h0
    clear h0
    go_enter Try.func62, Try.ntmps62
    go_wp2_with (go_at_call 72; refine (Hoff.out).mono ?_; rintro e w1 ⟨rfl, rfl⟩)
    go_ret
    exact ⟨false, a, e, by unfold Form.flg; rw [if_pos H0.out], rfl, H.out, World.grownBy.refl _ _⟩
end Go.Proofs.Ytoflehlkacofjaa
/- Walk of the reader's Text. -/
namespace Go.Proofs.Ytoflehlkacofjaa
open Go.ChangeShapes Go.WideShapes Go.ChangeAt Go.RowKit
set_option linter.unusedVariables false
theorem slice_from (w : World) (p : Option Addr) (c : Nat) (l : List UInt8) (k : Nat) (h : RdB w (.slice p l.length c) l) (hl : k ≤ l.length) :
    ∃ q d, (∀ W, (Instr.sliceAt 39 (.slice p l.length c) (some (.int .i64 (k : Int))) none none).run Try.prog W = .ok (.slice q (l.length - k) d) W) ∧ RdB w (.slice q (l.length - k) d) (l.drop k) ∧ (∀ x, Off (.slice p l.length c) x → Off (.slice q (l.length - k) d) x) := by
  refine ⟨_, _, fun W => ?_, h.dropped k hl, ?_⟩
  · exact run_slice_lo (P := Try.prog) 39 5 Try.underlying39 1 (show (Try.prog.info? 5).map (·.size) = some 1 by kernel_rfl) p l.length c k hl W
  · intro x hx a' n' c' e hn
    simp only [Value.slice.injEq] at e
    obtain ⟨e, hn', _⟩ := e
    have hn2 : l.length ≠ 0 := by omega
    split at e
    · subst e; exact hx _ _ _ rfl hn2
    · cases p with
      | none => cases e
      | some y => cases e; have := hx y _ _ rfl hn2; show (y.add (k * 1)).block ≠ x; unfold Addr.add; split <;> exact this

theorem below_grown' {x y : World} {row : Option Nat} (h : Below x.heap.size x y) : x.grownBy y row := ⟨h.os, h.tape, h.output, h.size, fun k hk _ => h.block k hk⟩
end Go.Proofs.Ytoflehlkacofjaa
/- Walk of the law WireOnly. -/
namespace Go.Proofs.Ytoflehlkacofjaa
open Go.ChangeShapes Go.WideShapes Go.ChangeAt Go.RowKit
set_option linter.unusedVariables false
namespace Form
def again (b : List UInt8) (a : Nat) (e : Int) (f : List UInt8) : Bool := if a = 0 then decide (done b.length a e ≠ 0) else decide (f = b.take a)
theorem unfold_bd (n : Nat) (h : n < 2 ^ 64) : -9223372036854775808 ≤ unfold_ n ∧ unfold_ n ≤ 9223372036854775807 := by
  unfold unfold_; split <;> omega
end Form
theorem Rdr.kept {w w' : World} {g : Nat} {v : Value} {a : Nat} {e : Int} (h : Rdr w g v a e) {row : Option Nat} (hg : w.grownBy w' row) (hne : some g ≠ row) : Rdr w' g v a e := by
  unfold Rdr at *
  rw [hg.block g (Array.getElem?_eq_some_iff.1 h).1 hne]; exact h

theorem Rdr.keeps {w w' : World} {g : Nat} {v : Value} {a : Nat} {e : Int} (h : Rdr w g v a e) (hk : Keeps w w') : Rdr w' g v a e := by
  unfold Rdr at *
  rw [hk g (Array.getElem?_eq_some_iff.1 h).1]; exact h
end Go.Proofs.Ytoflehlkacofjaa
/- Walks of the document's reader: Small, Nat, Int, Flag, Text, Fail, Done. -/
namespace Go.Proofs.Ytoflehlkacofjaa
open Go.ChangeShapes Go.WideShapes Go.ChangeAt Go.RowKit
set_option linter.unusedVariables false
/-- The document's reader at block g stands at place a of these bytes, which lie below block N, with this fault. -/
def RAt (w : World) (g : Nat) (T : TypeId) (b : List UInt8) (a : Nat) (e : Int) (N : Nat) : Prop := ∃ v, RRd w g T v e ∧ RdB w v (b.drop a) ∧ ∀ x, N ≤ x → Off v x
theorem RAt.keeps {w w' : World} {g : Nat} {T : TypeId} {b : List UInt8} {a : Nat} {e : Int} {N : Nat} (h : RAt w g T b a e N) (hk : Keeps w w') : RAt w' g T b a e N := by
  obtain ⟨v, h1, h2, h3⟩ := h
  exact ⟨v, by unfold RRd at *; rw [hk g (Array.getElem?_eq_some_iff.1 h1).1]; exact h1, h2.keeps hk, h3⟩
theorem RAt.kept {w w' : World} {g : Nat} {T : TypeId} {b : List UInt8} {a : Nat} {e : Int} {N x : Nat} (h : RAt w g T b a e N) (hg : w.grownBy w' (some x)) (hx : N ≤ x) (hne : g ≠ x) : RAt w' g T b a e N := by
  obtain ⟨v, h1, h2, h3⟩ := h
  exact ⟨v, by unfold RRd at *; rw [hg.block g (Array.getElem?_eq_some_iff.1 h1).1 (by simpa using hne)]; exact h1, h2.grown hg (h3 x hx), h3⟩
/-- It has moved; all else is as it was. -/
structure RM (w w' : World) (g : Nat) (T : TypeId) (b : List UInt8) (a : Nat) (e : Int) (N : Nat) : Prop where
  at_ : RAt w' g T b a e N
  grown : w.grownBy w' (some g)
theorem RM.fail {w : World} {g : Nat} {T : TypeId} {v : Value} {b : List UInt8} {a : Nat} {e : Int} {N : Nat} (h : RRd w g T v e) (hb : RdB w v (b.drop a)) (ho : ∀ x, N ≤ x → Off v x) (hg : N ≤ g) (e' : Int) : RM w (w.setCell ⟨g, 1, none⟩ (.int .i64 e')) g T b a e' N :=
  ⟨⟨v, h.set1 e', hb.grown (Lib.grownBy_setCell w g 1 _) (ho g hg), ho⟩, Lib.grownBy_setCell w g 1 _⟩
theorem RM.go {w : World} {g : Nat} {T : TypeId} {v v' : Value} {b : List UInt8} {a' : Nat} {e : Int} {N : Nat} (h : RRd w g T v e) (hb : RdB w v' (b.drop a')) (ho : ∀ x, N ≤ x → Off v' x) (hg : N ≤ g) : RM w (w.setCell ⟨g, 0, none⟩ v') g T b a' e N :=
  ⟨⟨v', h.set0 v', hb.grown (Lib.grownBy_setCell w g 0 _) (ho g hg), ho⟩, Lib.grownBy_setCell w g 0 _⟩
theorem RM.refl {w : World} {g : Nat} {T : TypeId} {b : List UInt8} {a : Nat} {e : Int} {N : Nat} (h : RAt w g T b a e N) : RM w w g T b a e N := ⟨h, World.grownBy.refl _ _⟩

set_option maxRecDepth 100000 in
set_option maxHeartbeats 800000 in
theorem refsmall_w (g : Nat) (T : TypeId) (b : List UInt8) (a : Nat) (e : Int) (N most : Nat) (w : World) (h : RAt w g T b a e N) (hg : N ≤ g) (ha : a ≤ b.length) (hl : b.length ≤ 1000000) (hm : most < 2 ^ 64) :
    Calls Try.prog 65 #[.pointer (some ⟨g, 0, none⟩), .int .u64 (most : Int)] w fun r w' => ∃ n a' : Nat, ∃ e' : Int, Form.small b a e most = (n, a', e') ∧ r = .returned (.int .u64 (n : Int)) ∧ RM w w' g T b a' e' N := by
  have H := Lib.hid h
  obtain ⟨v, hr, hb, ho⟩ := h
  have Hr := Lib.hid hr
  have hdl : (b.drop a).length ≤ 1000000 := by rw [List.length_drop]; omega
  have Hrd := Lib.hid (refrd_w g T v e (b.drop a) w hr hb hdl)
  have hc0 := hr.cell0
  have hc1 := hr.cell1
  have hf0 := hr.frozen 0
  have hf1 := hr.frozen 1
  have Hb := Lib.hid hb
  have Ho := Lib.hid ho
  have Hdd := Lib.hid (fun k => (List.drop_drop (i := k) (j := a) (l := b)))
  by_cases h0 : e = 0
  · have hsm : Form.small b a e most = if (Form.rd 0 0 (b.drop a)).2.2 = 0 then (if most < (Form.rd 0 0 (b.drop a)).1 then (0, a, 5) else ((Form.rd 0 0 (b.drop a)).1, a + (Form.rd 0 0 (b.drop a)).2.1, 0)) else (0, a, (((Form.rd 0 0 (b.drop a)).2.2 : Nat) : Int)) := by
      unfold Form.small; rw [if_neg (by simp [h0])]
    have Hsm := Lib.hid hsm
    obtain ⟨p, c, rfl, hp⟩ := hb
    have hcnt := (Form.rd_cnt (b.drop a) 0 0).1
    generalize hd : b.drop a = d at *
    have Hd := Lib.hid hd
    have H0 := Lib.hid h0
    subst h0
    clear hsm hp ho hr hd
    go_enter Try.func65, Try.ntmps65
    go_wp2_with (
      go_at_call 81
      refine (Hrd.out).mono ?_
      rintro r w1 ⟨rfl, n, cnt, f, hrd, rfl⟩
      rw [hrd] at hcnt
      obtain ⟨q, c2, hsl, hrq, hoq⟩ := slice_from w p c d cnt Hb.out (by simpa using hcnt)
      have Hrq := Lib.hid hrq
      have Hoq := Lib.hid hoq
      have Hrd2 := Lib.hid hrd
      clear hrd hcnt hrq hoq)
    all_goals go_ret
    · refine ⟨0, a, 5, ?_, rfl, ?_⟩
      · rw [Hsm.out, Hrd2.out, if_pos (by assumption), if_pos (by assumption)]
      · exact RM.fail Hr.out (Hd.out ▸ Hb.out) Ho.out hg _
    · refine ⟨n, a + cnt, 0, ?_, rfl, ?_⟩
      · rw [Hsm.out, Hrd2.out, if_pos (by assumption), if_neg (by omega)]
      · refine RM.go Hr.out ?_ (fun x hx => Hoq.out x (Ho.out x hx)) hg
        have := Hdd.out cnt
        rw [← this]; exact Hrq.out
    · refine ⟨0, a, (f : Int), ?_, rfl, ?_⟩
      · rw [Hsm.out, Hrd2.out, if_neg (by assumption)]
      · exact RM.fail Hr.out (Hd.out ▸ Hb.out) Ho.out hg _
  · have hd : decide (e = 0) = false := by simp [h0]
    have hd2 : (e != 0) = true := by simp [h0]
    have H0 := Lib.hid h0
    clear h0 hb ho hr
    go_enter Try.func65, Try.ntmps65
    go_wp2
    go_ret
    exact ⟨0, a, e, by unfold Form.small; rw [if_pos H0.out], rfl, RM.refl H.out⟩

set_option maxRecDepth 100000 in
theorem refrnat_w (g : Nat) (T : TypeId) (b : List UInt8) (a : Nat) (e : Int) (N : Nat) (w : World) (h : RAt w g T b a e N) (hg : N ≤ g) (ha : a ≤ b.length) (hl : b.length ≤ 1000000) :
    Calls Try.prog 66 #[.pointer (some ⟨g, 0, none⟩)] w fun r w' => ∃ n a' : Nat, ∃ e' : Int, Form.small b a e 18446744073709551615 = (n, a', e') ∧ r = .returned (.int .u64 (n : Int)) ∧ RM w w' g T b a' e' N := by
  have H := Lib.hid (refsmall_w g T b a e N 18446744073709551615 w h hg ha hl (by decide))
  clear h
  go_enter Try.func66, Try.ntmps66
  go_wp2_with (go_at_call 65; refine (H.out).mono ?_; rintro r w1 ⟨n, a', e', h1, rfl, h2⟩; have Hfin := Lib.hid (And.intro h1 h2); clear h1 h2)
  go_ret
  exact ⟨n, a', e', Hfin.out.1, rfl, Hfin.out.2⟩

theorem unfold_ways2 (n : Nat) (hn : n < 2 ^ 64) : ∃ q : Nat, (n : Int) / 2 = (q : Int) ∧ q < 2 ^ 63 ∧ IntKind.i64.wrap (q : Int) = (q : Int) ∧
    (((n : Int) % 2 = 0 ∧ (q : Int) = Form.unfold_ n) ∨ ((n : Int) % 2 = 1 ∧ IntKind.i64.wrap (-(q : Int)) = -(q : Int) ∧ IntKind.i64.wrap (-(q : Int) - 1) = Form.unfold_ n ∧ -(q : Int) - 1 = Form.unfold_ n)) := by
  refine ⟨n / 2, by omega, by omega, IntWalk.i64_in _ (by omega), ?_⟩
  unfold Form.unfold_
  by_cases h : n % 2 = 0
  · left; rw [if_pos h]; exact ⟨by omega, rfl⟩
  · right; rw [if_neg h]; exact ⟨by omega, IntWalk.i64_in _ (by omega), IntWalk.i64_in _ (by omega), rfl⟩

set_option maxRecDepth 100000 in
theorem refrint_w (g : Nat) (T : TypeId) (b : List UInt8) (a : Nat) (e : Int) (N : Nat) (w : World) (h : RAt w g T b a e N) (hg : N ≤ g) (ha : a ≤ b.length) (hl : b.length ≤ 1000000) :
    Calls Try.prog 67 #[.pointer (some ⟨g, 0, none⟩)] w fun r w' => ∃ n a' : Nat, ∃ e' : Int, Form.small b a e 18446744073709551615 = (n, a', e') ∧ r = .returned (.int .i64 (Form.unfold_ n)) ∧ RM w w' g T b a' e' N := by
  have H := Lib.hid (refrnat_w g T b a e N w h hg ha hl)
  have Ha := Lib.hid ha
  clear h
  go_enter Try.func67, Try.ntmps67
  go_wp2_with (
    go_at_call 66
    refine (H.out).mono ?_
    rintro r w1 ⟨n, a', e', h1, rfl, h2⟩
    have hw := unfold_ways2 n (Form.small_le h1 Ha.out).2.2
    have Hfin := Lib.hid (And.intro h1 h2)
    clear h1 h2
    obtain ⟨q, e1, eq, e2, hw⟩ := hw
    obtain ⟨u, hu⟩ : ∃ u, Form.unfold_ n = u := ⟨_, rfl⟩
    rw [hu] at hw
    have Hu := Lib.hid hu
    clear hu
    rcases hw with ⟨e3, e4⟩ | ⟨e3, e4, e5, e6⟩)
  all_goals go_ret
  all_goals exact ⟨n, a', e', Hfin.out.1, by rw [Hu.out]; rfl, Hfin.out.2⟩

set_option maxRecDepth 100000 in
theorem refrfail_w (g : Nat) (T : TypeId) (b : List UInt8) (a : Nat) (e m : Int) (N : Nat) (w : World) (h : RAt w g T b a e N) (hg : N ≤ g) :
    Calls Try.prog 82 #[.pointer (some ⟨g, 0, none⟩), .int .i64 m] w fun r w' => r = .returned (.tuple #[]) ∧ RM w w' g T b a (if e = 0 then m else e) N := by
  have H := Lib.hid h
  obtain ⟨v, hr, hb, ho⟩ := h
  have Hr := Lib.hid hr
  have hc1 := hr.cell1
  have hf1 := hr.frozen 1
  have Hb := Lib.hid hb
  have Ho := Lib.hid ho
  clear hr hb ho
  by_cases h0 : e = 0
  · subst h0
    go_enter Try.func82, Try.ntmps82
    go_wp2
    go_end0
    refine ⟨rfl, ?_⟩
    exact RM.fail Hr.out Hb.out Ho.out hg _
  · have hd : decide (e = 0) = false := by simp [h0]
    have hd2 : (e == 0) = false := by simp [h0]
    have H0 := Lib.hid h0
    clear h0
    go_enter Try.func82, Try.ntmps82
    go_wp2
    go_end0
    refine ⟨rfl, ?_⟩
    exact RM.refl H.out

set_option maxRecDepth 100000 in
theorem refrdone_w (g : Nat) (T : TypeId) (b : List UInt8) (a : Nat) (e : Int) (N : Nat) (w : World) (h : RAt w g T b a e N) (ha : a ≤ b.length) (hl : b.length ≤ 1000000) :
    Calls Try.prog 70 #[.pointer (some ⟨g, 0, none⟩)] w fun r w' => r = .returned (.int .i64 (Form.done b.length a e)) ∧ w = w' := by
  obtain ⟨v, hr, hb, ho⟩ := h
  have hc0 := hr.cell0
  have hc1 := hr.cell1
  have hdl := List.length_drop (i := a) (l := b)
  obtain ⟨p, c, rfl, hp⟩ := hb
  clear hr ho hp
  generalize (b.drop a).length = m at *
  have hmm : m ≤ 1000000 := by omega
  by_cases h0 : e = 0
  · subst h0
    by_cases h1 : a < b.length
    · have hd : Form.done b.length a 0 = 5 := by unfold Form.done; rw [if_pos ⟨rfl, h1⟩]
      have hm0 : 0 < m := by omega
      rw [hd]
      clear hdl hd
      go_enter Try.func70, Try.ntmps70
      go_wp2
      go_ret
      exact ⟨rfl, rfl⟩
    · have hd : Form.done b.length a 0 = 0 := by unfold Form.done; rw [if_neg (fun h => h1 h.2)]
      have hm0 : m = 0 := by omega
      subst hm0
      rw [hd]
      clear hdl hd
      go_enter Try.func70, Try.ntmps70
      go_wp2
      go_ret
      exact ⟨rfl, rfl⟩
  · have hd : Form.done b.length a e = e := by unfold Form.done; rw [if_neg (fun h => h0 h.1)]
    have hd1 : decide (e = 0) = false := by simp [h0]
    have hd2 : (e == 0) = false := by simp [h0]
    rw [hd]
    clear hdl hd h0
    go_enter Try.func70, Try.ntmps70
    go_wp2
    go_ret
    exact ⟨rfl, rfl⟩

/-- What the document's Flag leaves. -/
def RFlg (w : World) (g : Nat) (T : TypeId) (b : List UInt8) (a : Nat) (e : Int) (N : Nat) (r : Ending) (w' : World) : Prop := ∃ (f : Bool) (a' : Nat) (e' : Int), Form.flg b a e = (f, a', e') ∧ r = .returned (.bool f) ∧ RM w w' g T b a' e' N
set_option maxRecDepth 100000 in
set_option maxHeartbeats 800000 in
theorem refrflag_w (g : Nat) (T : TypeId) (b : List UInt8) (a : Nat) (e : Int) (N : Nat) (w : World) (h : RAt w g T b a e N) (hg : N ≤ g) (ha : a ≤ b.length) (hl : b.length ≤ 1000000) :
    Calls Try.prog 69 #[.pointer (some ⟨g, 0, none⟩)] w (RFlg w g T b a e N) := by
  have H := Lib.hid h
  obtain ⟨v, hr, hb, ho⟩ := h
  have Hr := Lib.hid hr
  have hdl := List.length_drop (i := a) (l := b)
  have hc0 := hr.cell0
  have hc1 := hr.cell1
  have hf0 := hr.frozen 0
  have hf1 := hr.frozen 1
  have Hb := Lib.hid hb
  have Ho := Lib.hid ho
  by_cases h0 : e = 0
  · obtain ⟨p, c, rfl, hp⟩ := hb
    have Hp := Lib.hid hp
    clear hr hp ho
    by_cases hlt : a < b.length
    · have hfl : Form.flg b a e = if 1 < (b.getD a 0).toNat then (false, a, 5) else (decide ((b.getD a 0).toNat = 1), a + 1, 0) := by
        unfold Form.flg; rw [if_neg (by simp [h0]), List.getElem?_eq_getElem hlt, getD_of_lt _ _ _ hlt]
      obtain ⟨bq, oq, rfl, hbq, hcq⟩ := Hp.out.at (k := 0) (by omega)
      have hgd : (b.drop a).getD 0 0 = b.getD a 0 := by simp [List.getD]
      rw [hgd, Nat.add_zero] at hcq
      obtain ⟨q, c2, hsl, hrq, hoq⟩ := slice_from w _ c (b.drop a) 1 Hb.out (by omega)
      have hsl' : ∀ W, (Instr.sliceAt 39 (.slice (some ⟨bq, oq, none⟩) (b.drop a).length c) (some (.int .i64 1)) none none).run Try.prog W = .ok (.slice q ((b.drop a).length - 1) c2) W := fun W => hsl W
      clear hsl
      have Hrq := Lib.hid hrq
      have Hoq := Lib.hid hoq
      have Hdd := Lib.hid (List.drop_drop (i := 1) (j := a) (l := b))
      have hx := UInt8.toNat_lt (b.getD a 0)
      have Hfl := Lib.hid hfl
      have H0 := Lib.hid h0
      subst h0
      clear hfl hrq hoq hgd
      generalize (b.getD a 0).toNat = x at *
      generalize hd : b.drop a = d at *
      have Hd := Lib.hid hd
      have hm0 : 0 < d.length := by omega
      have hne : decide ((d.length : Int) = 0) = false := decide_eq_false (by omega)
      have hne2 : ((d.length : Int) == 0) = false := beq_eq_false_iff_ne.2 (by omega)
      clear hd hdl
      by_cases hx1 : 1 < x
      · go_enter Try.func69, Try.ntmps69
        go_wp2
        go_ret
        exact ⟨false, a, 5, by rw [Hfl.out, if_pos hx1], rfl, RM.fail Hr.out (Hd.out ▸ Hb.out) Ho.out hg _⟩
      · obtain ⟨q1, hq1⟩ : ∃ q1, decide (x = 1) = q1 := ⟨_, rfl⟩
        have hq2 : ((x : Int) == 1) = q1 := by rw [← hq1, Bool.eq_iff_iff]; simp; omega
        have Hq1 := Lib.hid hq1
        clear hq1
        go_enter Try.func69, Try.ntmps69
        go_wp2
        go_ret
        exact ⟨q1, a + 1, 0, by rw [Hfl.out, if_neg hx1, Hq1.out], rfl, RM.go Hr.out (by rw [← Hdd.out]; exact Hrq.out) (fun x hx => Hoq.out x (Ho.out x hx)) hg⟩
    · have hfl : Form.flg b a e = (false, a, 4) := by
        unfold Form.flg; rw [if_neg (by simp [h0]), List.getElem?_eq_none (by omega)]
      have Hfl := Lib.hid hfl
      have hm0 : (b.drop a).length = 0 := by omega
      subst h0
      generalize hd : b.drop a = d at *
      have Hd := Lib.hid hd
      rw [hm0] at hc0
      clear hfl hd hdl hm0
      go_enter Try.func69, Try.ntmps69
      go_wp2
      go_ret
      exact ⟨false, a, 4, Hfl.out, rfl, RM.fail Hr.out (Hd.out ▸ Hb.out) Ho.out hg _⟩
  · have hd : decide (e = 0) = false := by simp [h0]
    have hd2 : (e != 0) = true := by simp [h0]
    have H0 := Lib.hid h0
    clear h0 hb ho hr
    go_enter Try.func69, Try.ntmps69
    go_wp2
    go_ret
    exact ⟨false, a, e, by unfold Form.flg; rw [if_pos H0.out], rfl, RM.refl H.out⟩
end Go.Proofs.Ytoflehlkacofjaa
/- Walk of the document's Text. -/
namespace Go.Proofs.Ytoflehlkacofjaa
open Go.ChangeShapes Go.WideShapes Go.ChangeAt Go.RowKit
set_option linter.unusedVariables false
theorem RRd.keeps {w w' : World} {g : Nat} {T : TypeId} {v : Value} {e : Int} (h : RRd w g T v e) (hk : Keeps w w') : RRd w' g T v e := by
  unfold RRd at *
  rw [hk g (Array.getElem?_eq_some_iff.1 h).1]; exact h
end Go.Proofs.Ytoflehlkacofjaa
/- Walk of the law WireReads. -/
namespace Go.Proofs.Ytoflehlkacofjaa
open Go.ChangeShapes Go.WideShapes Go.ChangeAt Go.RowKit
set_option linter.unusedVariables false
theorem Marked.kept {base : Nat} {l : List UInt8} {v : Value} {x y : World} {k : Nat} (h : Marked base l v x) (hg : x.grownBy y (some k)) (ho : ∀ a n c, v = .slice (some a) n c → a.block ≠ k) : Marked base l v y := by
  obtain ⟨g, c, e, h1, h2⟩ := h
  refine ⟨g, c, e, h1, ?_⟩
  rcases h2 with ⟨h2, _⟩ | ⟨g', cap, cur, hv, hg', hh, r⟩
  · cases h2
  · have hgg : g = g' := by simp at hv; exact hv.1
    subst hgg
    have := ho _ _ _ e
    refine .inr ⟨g, cap, cur, hv, hg', ?_, r⟩
    rw [hg.block g (Array.getElem?_eq_some_iff.1 hh).1 (by simpa using this)]
    exact hh

/-- Where the script stands: the reader at block G, the document's at G + 1, the bytes that were lent, those that came in. -/
structure SR (w W : World) (G base : Nat) (sin sb : Value) (b : List UInt8) (a : Nat) (e : Int) (a2 : Nat) (e2 : Int) : Prop where
  below : Below w.heap.size w W
  rd : Rdr W G sin a e
  rf : RAt W (G + 1) 52 b a2 e2 w.heap.size
  mkd : Marked base b sin W
  bb : RdB W sb b
  ob : ∀ x, w.heap.size ≤ x → Off sb x
  oi : ∀ a n c, sin = .slice (some a) n c → a.block < G
  hG : w.heap.size ≤ G
  al : a ≤ b.length
  al2 : a2 ≤ b.length
theorem SR.lt {w W : World} {G base : Nat} {sin sb : Value} {b : List UInt8} {a : Nat} {e : Int} {a2 : Nat} {e2 : Int} (h : SR w W G base sin sb b a e a2 e2) : G + 1 < W.heap.size := by
  obtain ⟨v, h1, _⟩ := h.rf
  exact h1.lt
theorem SR.off {w W : World} {G base : Nat} {sin sb : Value} {b : List UInt8} {a : Nat} {e : Int} {a2 : Nat} {e2 : Int} (h : SR w W G base sin sb b a e a2 e2) {x : Nat} (hx : G ≤ x) : Off sin x := fun ad n c hs _ => by have := h.oi ad n c hs; omega
theorem SR.kept {w W W' : World} {G base : Nat} {sin sb : Value} {b : List UInt8} {a : Nat} {e : Int} {a2 : Nat} {e2 : Int} (h : SR w W G base sin sb b a e a2 e2) {x : Nat} (hg : W.grownBy W' (some x)) (hx : G + 1 < x) : SR w W' G base sin sb b a e a2 e2 :=
  have hG := h.hG
  ⟨h.below.grown hg h.below.size (fun k e => by cases e; omega), h.rd.kept hg (by simp; omega), h.rf.kept hg (by omega) (by omega), h.mkd.kept hg (fun ad n c hs => by have := h.oi ad n c hs; omega), h.bb.grown hg (h.ob x (by omega)), h.ob, h.oi, h.hG, h.al, h.al2⟩
end Go.Proofs.Ytoflehlkacofjaa
/- Walk of the law WireBack. -/
namespace Go.Proofs.Ytoflehlkacofjaa
open Go.ChangeShapes Go.WideShapes Go.ChangeAt Go.RowKit Go.Deep
set_option linter.unusedVariables false
namespace Form
def u64 (n : Int) : Nat := (n % 18446744073709551616).toNat
theorem u64_wrap (n : Int) : IntKind.u64.wrap n = (u64 n : Int) := by rw [IntKind.wrap_u64]; unfold u64; omega
theorem u64_lt (n : Int) : u64 n < 2 ^ 64 := by unfold u64; omega
theorem rd_back (F rest : List UInt8) (n a : Nat) (hn : n < 2 ^ 64) (h : F.drop a = nat n ++ rest) : rd 0 0 (F.drop a) = (n, (nat n).length, 0) := by
  rw [h, rd_nat n 0 0 rest (by rw [Nat.pow_zero, Nat.mul_one]; exact hn) (fun h => absurd h (Nat.lt_irrefl _))]
  simp
end Form
end Go.Proofs.Ytoflehlkacofjaa
/- The data of a contract: the small tests, walked. -/
namespace Go.Proofs.Ytoflehlkacofjaa
open Go.ChangeShapes Go.WideShapes Go.ChangeAt Go.RowKit
set_option linter.unusedVariables false
namespace Form
def inB (n lo hi : Int) : Bool := decide (lo ≤ n) && decide (n ≤ hi)
def priceB (tick n : Int) : Bool := inB n 1 10000000 && decide (n % tick = 0)
def farB (a most : Int) : Bool := decide (0 ≤ most) && decide (-most ≤ a ∧ a ≤ most)
end Form
theorem within_w (n lo hi : Int) (w : World) : Calls Try.prog 77 #[.int .i64 n, .int .i64 lo, .int .i64 hi] w fun r w' => r = .returned (.bool (Form.inB n lo hi)) ∧ w = w' := by
  unfold Form.inB
  by_cases h1 : lo ≤ n
  · by_cases h2 : n ≤ hi
    · go_enter Try.func77, Try.ntmps77
      go_wp2
      go_ret
      exact ⟨by first | (simp; done) | (simp; intros; omega) | (simp; omega), rfl⟩
    · go_enter Try.func77, Try.ntmps77
      go_wp2
      go_ret
      exact ⟨by first | (simp; done) | (simp; intros; omega) | (simp; omega), rfl⟩
  · go_enter Try.func77, Try.ntmps77
    go_wp2
    go_ret
    exact ⟨by first | (simp; done) | (simp; intros; omega) | (simp; omega), rfl⟩
theorem among_w (n lo hi : Int) (w : World) : Calls Try.prog 79 #[.int .i64 n, .int .i64 lo, .int .i64 hi] w fun r w' => r = .returned (.bool (Form.inB n lo hi)) ∧ w = w' := by
  unfold Form.inB
  by_cases h1 : lo ≤ n
  · by_cases h2 : n ≤ hi
    · go_enter Try.func79, Try.ntmps79
      go_wp2
      go_ret
      exact ⟨by first | (simp; done) | (simp; intros; omega) | (simp; omega), rfl⟩
    · go_enter Try.func79, Try.ntmps79
      go_wp2
      go_ret
      exact ⟨by first | (simp; done) | (simp; intros; omega) | (simp; omega), rfl⟩
  · go_enter Try.func79, Try.ntmps79
    go_wp2
    go_ret
    exact ⟨by first | (simp; done) | (simp; intros; omega) | (simp; omega), rfl⟩

theorem price_w (tick n : Int) (w : World) (ht : 1 ≤ tick) : Calls Try.prog 78 #[.int .i64 tick, .int .i64 n] w fun r w' => r = .returned (.bool (Form.priceB tick n)) ∧ w = w' := by
  obtain ⟨q, hq⟩ : ∃ q, Form.inB n 1 10000000 = q := ⟨_, rfl⟩
  have H := Lib.hid (within_w n 1 10000000)
  rw [hq] at H
  have hp : Form.priceB tick n = (q && decide (n % tick = 0)) := by unfold Form.priceB; rw [hq]
  rw [hp]
  cases q with
  | false =>
    clear hq hp
    go_enter Try.func78, Try.ntmps78
    go_wp2_with (go_at_call 77; refine (H.out _).mono ?_; rintro r w1 ⟨rfl, rfl⟩)
    go_ret
    exact ⟨rfl, rfl⟩
  | true =>
    have hn : 1 ≤ n := by unfold Form.inB at hq; simp at hq; omega
    obtain ⟨z, hz⟩ : ∃ z, n % tick = z := ⟨_, rfl⟩
    obtain ⟨zb, hzb⟩ : ∃ zb, decide (z = 0) = zb := ⟨_, rfl⟩
    have hz2 : (z == 0) = zb := by rw [← hzb, Bool.eq_iff_iff]; simp
    rw [hz, hzb]
    clear hq hp hzb
    go_enter Try.func78, Try.ntmps78
    go_wp2_with (go_at_call 77; refine (H.out _).mono ?_; rintro r w1 ⟨rfl, rfl⟩)
    go_ret
    exact ⟨rfl, rfl⟩

theorem refprice_w (tick n : Int) (w : World) (ht : 1 ≤ tick) (hb : n ≤ 9223372036854775807) : Calls Try.prog 80 #[.int .i64 tick, .int .i64 n] w fun r w' => r = .returned (.bool (Form.priceB tick n)) ∧ w = w' := by
  unfold Form.priceB Form.inB
  by_cases h1 : 1 ≤ n
  · by_cases h2 : n ≤ 10000000
    · obtain ⟨q, hq⟩ : ∃ q, n / tick = q := ⟨_, rfl⟩
      obtain ⟨z, hz⟩ : ∃ z, q * tick = z := ⟨_, rfl⟩
      have hzz : n % tick = 0 ↔ z = n := by
        have := Int.emod_add_mul_ediv n tick
        rw [hq] at this
        rw [← hz, Int.mul_comm q]
        omega
      have hqb : 0 ≤ z ∧ z ≤ n := by
        have h3 := Int.emod_add_mul_ediv n tick
        have h4 := Int.emod_nonneg n (show tick ≠ 0 by omega)
        have h5 : 0 ≤ n / tick := Int.ediv_nonneg (by omega) (by omega)
        rw [hq] at h3 h5
        rw [← hz, Int.mul_comm q]
        refine ⟨Int.mul_nonneg (by omega) h5, by omega⟩
      have hw : IntKind.i64.wrap z = z := IntWalk.i64_in _ (by omega)
      obtain ⟨zb, hzb⟩ : ∃ zb, decide (z = n) = zb := ⟨_, rfl⟩
      have hz2 : (z == n) = zb := by rw [← hzb, Bool.eq_iff_iff]; simp
      have e : decide (n % tick = 0) = zb := by rw [← hzb]; exact decide_eq_decide.2 hzz
      rw [e]
      have Hn := Lib.hid (And.intro h1 h2)
      clear hzz hzb e
      go_enter Try.func80, Try.ntmps80
      go_wp2
      go_ret
      exact ⟨by first | (simp; done) | (simp; intros; omega) | (simp; omega), rfl⟩
    · go_enter Try.func80, Try.ntmps80
      go_wp2
      go_ret
      exact ⟨by first | (simp; done) | (simp; intros; omega) | (simp; omega), rfl⟩
  · go_enter Try.func80, Try.ntmps80
    go_wp2
    go_ret
    exact ⟨by first | (simp; done) | (simp; intros; omega) | (simp; omega), rfl⟩

theorem size_w (a : Int) (w : World) (h : -9223372036854775808 ≤ a ∧ a ≤ 9223372036854775807) : Calls Try.prog 83 #[.int .i64 a] w fun r w' => r = .returned (.tuple #[.int .u64 (a.natAbs : Nat), .bool (decide (a < 0))]) ∧ w = w' := by
  obtain ⟨m, hm⟩ : ∃ m : Nat, a.natAbs = m := ⟨_, rfl⟩
  rw [hm]
  by_cases h0 : a < 0
  · have e1 : IntKind.u64.wrap a = a + 18446744073709551616 := by rw [IntKind.wrap_u64]; omega
    have e2 : IntKind.u64.wrap (-(a + 18446744073709551616)) = (m : Int) := by rw [IntKind.wrap_u64]; omega
    clear hm
    go_enter Try.func83, Try.ntmps83
    go_wp2
    go_ret2
    exact ⟨by first | (simp; done) | (simp; intros; omega) | (simp; omega), rfl⟩
  · have e1 : IntKind.u64.wrap a = (m : Int) := by rw [IntKind.wrap_u64]; omega
    clear hm
    go_enter Try.func83, Try.ntmps83
    go_wp2
    go_ret2
    exact ⟨by first | (simp; done) | (simp; intros; omega) | (simp; omega), rfl⟩

theorem far_w2 (a most : Int) (w : World) (h : -9223372036854775808 ≤ a ∧ a ≤ 9223372036854775807) (hm : -9223372036854775808 ≤ most ∧ most ≤ 9223372036854775807) : Calls Try.prog 76 #[.int .i64 a, .int .i64 most] w fun r w' => r = .returned (.bool (Form.farB a most)) ∧ w = w' := by
  have H := Lib.hid (size_w a w h)
  unfold Form.farB
  by_cases h0 : 0 ≤ most
  · obtain ⟨m, rfl⟩ : ∃ m : Nat, most = (m : Int) := ⟨most.toNat, by omega⟩
    have e1 : IntKind.u64.wrap (m : Int) = (m : Int) := IntWalk.u64_in _ (by omega)
    obtain ⟨k, hk⟩ : ∃ k, a.natAbs = k := ⟨_, rfl⟩
    rw [hk] at H
    by_cases h1 : k ≤ m
    · have e2 : decide (-(m : Int) ≤ a ∧ a ≤ (m : Int)) = true := by simp; omega
      rw [e2]
      clear hk e2
      go_enter Try.func76, Try.ntmps76
      go_wp2_with (go_at_call 83; refine (H.out).mono ?_; rintro r w1 ⟨rfl, rfl⟩)
      go_ret
      exact ⟨by first | (simp; done) | (simp; intros; omega) | (simp; omega), rfl⟩
    · have e2 : decide (-(m : Int) ≤ a ∧ a ≤ (m : Int)) = false := by simp; omega
      rw [e2]
      clear hk e2
      go_enter Try.func76, Try.ntmps76
      go_wp2_with (go_at_call 83; refine (H.out).mono ?_; rintro r w1 ⟨rfl, rfl⟩)
      go_ret
      exact ⟨by first | (simp; done) | (simp; intros; omega) | (simp; omega), rfl⟩
  · go_enter Try.func76, Try.ntmps76
    go_wp2_with (go_at_call 83; refine (H.out).mono ?_; rintro r w1 ⟨rfl, rfl⟩)
    go_ret
    exact ⟨by first | (simp; done) | (simp; intros; omega) | (simp; omega), rfl⟩
end Go.Proofs.Ytoflehlkacofjaa
/- The data of a contract: as they lie, and whether they may be. -/
namespace Go.Proofs.Ytoflehlkacofjaa
open Go.ChangeShapes Go.WideShapes Go.ChangeAt Go.RowKit
set_option linter.unusedVariables false
structure Sp where
  number : Int
  route : Int
  tick : Int
  lot : Int
  band : Int
  limit : Int
  sh : Nat → Int
  credit : Int
  last : Int
  first : Int

namespace Sp
def cells (s : Sp) : Array Value := #[.int .u32 s.number, .int .u8 s.route, .int .i64 s.tick, .int .i64 s.lot, .int .i64 s.band, .int .i64 s.limit,
  .int .i64 (s.sh 0), .int .i64 (s.sh 1), .int .i64 (s.sh 2), .int .i64 (s.sh 3), .int .i64 (s.sh 4), .int .i64 (s.sh 5), .int .i64 (s.sh 6), .int .i64 (s.sh 7),
  .int .i64 (s.sh 8), .int .i64 (s.sh 9), .int .i64 (s.sh 10), .int .i64 (s.sh 11), .int .i64 (s.sh 12), .int .i64 (s.sh 13), .int .i64 (s.sh 14), .int .i64 (s.sh 15),
  .int .i64 s.credit, .int .u32 s.last, .int .i64 s.first]
def row (s : Sp) : Array Value := #[.int .i64 (s.sh 0), .int .i64 (s.sh 1), .int .i64 (s.sh 2), .int .i64 (s.sh 3), .int .i64 (s.sh 4), .int .i64 (s.sh 5), .int .i64 (s.sh 6), .int .i64 (s.sh 7),
  .int .i64 (s.sh 8), .int .i64 (s.sh 9), .int .i64 (s.sh 10), .int .i64 (s.sh 11), .int .i64 (s.sh 12), .int .i64 (s.sh 13), .int .i64 (s.sh 14), .int .i64 (s.sh 15)]
def i64 (n : Int) : Prop := -9223372036854775808 ≤ n ∧ n ≤ 9223372036854775807
structure ok (s : Sp) : Prop where
  number : 0 ≤ s.number ∧ s.number ≤ 4294967295
  route : 0 ≤ s.route ∧ s.route ≤ 255
  tick : i64 s.tick
  lot : i64 s.lot
  band : i64 s.band
  limit : i64 s.limit
  sh : ∀ i, i64 (s.sh i)
  credit : i64 s.credit
  last : 0 ≤ s.last ∧ s.last ≤ 4294967295
  first : i64 s.first
theorem size (s : Sp) : s.cells.size = 25 := rfl
theorem row_at (s : Sp) (k : Nat) (hk : k < 16) : s.row[k]? = some (.int .i64 (s.sh k)) := by
  have h : k = 0 ∨ k = 1 ∨ k = 2 ∨ k = 3 ∨ k = 4 ∨ k = 5 ∨ k = 6 ∨ k = 7 ∨ k = 8 ∨ k = 9 ∨ k = 10 ∨ k = 11 ∨ k = 12 ∨ k = 13 ∨ k = 14 ∨ k = 15 := by omega
  rcases h with rfl | rfl | rfl | rfl | rfl | rfl | rfl | rfl | rfl | rfl | rfl | rfl | rfl | rfl | rfl | rfl <;> rfl
theorem sh_at (s : Sp) (k : Nat) (hk : k < 16) : s.cells[6 + k]? = some (.int .i64 (s.sh k)) := by
  have h : k = 0 ∨ k = 1 ∨ k = 2 ∨ k = 3 ∨ k = 4 ∨ k = 5 ∨ k = 6 ∨ k = 7 ∨ k = 8 ∨ k = 9 ∨ k = 10 ∨ k = 11 ∨ k = 12 ∨ k = 13 ∨ k = 14 ∨ k = 15 := by omega
  rcases h with rfl | rfl | rfl | rfl | rfl | rfl | rfl | rfl | rfl | rfl | rfl | rfl | rfl | rfl | rfl | rfl <;> rfl
def all (s : Sp) (n : Nat) : Bool := (List.range n).all fun i => Form.farB (s.sh i) 10000000
def up (s : Sp) (n : Nat) : Bool := (List.range n).any fun i => decide (0 < s.sh i)
def down (s : Sp) (n : Nat) : Bool := (List.range n).any fun i => decide (s.sh i < 0)
theorem all_succ (s : Sp) (n : Nat) : s.all (n + 1) = (s.all n && Form.farB (s.sh n) 10000000) := by unfold all; rw [List.range_succ]; simp
theorem up_succ (s : Sp) (n : Nat) : s.up (n + 1) = (s.up n || decide (0 < s.sh n)) := by unfold up; rw [List.range_succ]; simp
theorem down_succ (s : Sp) (n : Nat) : s.down (n + 1) = (s.down n || decide (s.sh n < 0)) := by unfold down; rw [List.range_succ]; simp
theorem all_le (s : Sp) {n m : Nat} (h : n ≤ m) (ha : s.all n = false) : s.all m = false := by
  unfold all at *
  rw [List.all_eq_false] at *
  obtain ⟨x, hx, hf⟩ := ha
  exact ⟨x, List.mem_range.2 (by have := List.mem_range.1 hx; omega), hf⟩
def mayB (s : Sp) : Bool := s.all 16 && (s.up 16 && (s.down 16 && (decide (s.number ≠ 0) && (Form.inB s.route 1 8 && (Form.inB s.tick 1 10000000 && (Form.inB s.lot 1 1000000 && (Form.inB s.band 0 10000000 && (Form.inB s.limit 1 10000000 && (Form.inB s.credit 0 10000000 && Form.priceB s.tick s.first)))))))))
end Sp
/-- A contract's data lie at block B. -/
def SpAt (w : World) (B : Nat) (s : Sp) : Prop := w.heap[B]? = some (.cells s.cells 27)
theorem SpAt.new (w : World) (s : Sp) : SpAt (w.alloc (.cells s.cells 27)) w.heap.size s := heap_alloc_new w _
theorem SpAt.at {w : World} {B : Nat} {s : Sp} (h : SpAt w B s) (k : Nat) : w.cell? ⟨B, k, none⟩ = s.cells[k]? := by rw [cell_of_row _ _ _ _ _ _ h]
theorem SpAt.range {w : World} {B : Nat} {s : Sp} (h : SpAt w B s) : w.rangeAt B 6 s.row.toList := by
  intro j v hv
  have hj : j < 16 := (List.getElem?_eq_some_iff.1 hv).1
  rw [h.at, s.sh_at j hj]
  rw [Array.getElem?_toList, s.row_at j hj] at hv
  exact hv

set_option maxRecDepth 100000 in
theorem run_index_row (s : Sp) (k : Nat) (hk : k < 16) (W : World) : (Instr.index 25 (.agg s.row) (.int .i64 (k : Int))).run Try.prog W = .ok (.int .i64 (s.sh k)) W := by
  have h : k = 0 ∨ k = 1 ∨ k = 2 ∨ k = 3 ∨ k = 4 ∨ k = 5 ∨ k = 6 ∨ k = 7 ∨ k = 8 ∨ k = 9 ∨ k = 10 ∨ k = 11 ∨ k = 12 ∨ k = 13 ∨ k = 14 ∨ k = 15 := by omega
  rcases h with rfl | rfl | rfl | rfl | rfl | rfl | rfl | rfl | rfl | rfl | rfl | rfl | rfl | rfl | rfl | rfl <;> rfl

set_option maxRecDepth 100000 in
set_option maxHeartbeats 1600000 in
theorem may_w (s : Sp) (w : World) (h : s.ok) : Calls Try.prog 54 #[.agg s.cells] w fun r w' => r = .returned (.bool s.mayB) ∧ Below w.heap.size w w' := by
  have HB := Lib.hid ((Below.refl w.heap.size w).alloc (Nat.le_refl _) (.cells s.cells 27))
  have HS := Lib.hid (SpAt.new w s)
  have HR := Lib.hid HS.out.range
  have c0 : s.cells[0]? = some (.int .u32 s.number) := rfl
  have c1 : s.cells[1]? = some (.int .u8 s.route) := rfl
  have c2 : s.cells[2]? = some (.int .i64 s.tick) := rfl
  have c3 : s.cells[3]? = some (.int .i64 s.lot) := rfl
  have c4 : s.cells[4]? = some (.int .i64 s.band) := rfl
  have c5 : s.cells[5]? = some (.int .i64 s.limit) := rfl
  have c22 : s.cells[22]? = some (.int .i64 s.credit) := rfl
  have c24 : s.cells[24]? = some (.int .i64 s.first) := rfl
  have d0 := (HS.out.at 0).trans c0
  have d1 := (HS.out.at 1).trans c1
  have d2 := (HS.out.at 2).trans c2
  have d3 := (HS.out.at 3).trans c3
  have d4 := (HS.out.at 4).trans c4
  have d5 := (HS.out.at 5).trans c5
  have d22 := (HS.out.at 22).trans c22
  have d24 := (HS.out.at 24).trans c24
  go_enter Try.func54, Try.ntmps54
  go_wp2_with (refine wpList_load_mid rfl 25 (.tmp 7) rfl _ _ rfl s.row.toList _ HR.out Try.underlying25 rfl (show _ = some 16 by kernel_rfl) ?_; rw [Array.toArray_toList])
  have Hok := Lib.hid h
  clear h
  go_loop [3, 4, 9] (fun u d i => ∃ k : Nat, k ≤ 16 ∧ i = .int .i64 (k : Int) ∧ u = .bool (s.up k) ∧ d = .bool (s.down k) ∧ s.all k = true) (fun _ _ i => 16 - (intOf i).toNat)
  case atStart => exact ⟨0, by decide, rfl, rfl, rfl, rfl⟩
  case round =>
    obtain ⟨k, hk, rfl, rfl, rfl, hall⟩ := hrel
    have Hall := Lib.hid hall
    clear hall
    by_cases hlt : k < 16
    · have hidx := run_index_row s k hlt
      have Hup := Lib.hid (s.up_succ k)
      have Hdn := Lib.hid (s.down_succ k)
      have Hal := Lib.hid (s.all_succ k)
      have Hf := Lib.hid (far_w2 (s.sh k) 10000000 (w.alloc (.cells s.cells 27)) (Hok.out.sh k) (by decide))
      rw [Hall.out] at Hal
      have Hle := Lib.hid (fun h => s.all_le (n := k + 1) (m := 16) (by omega) h)
      generalize s.sh k = x at *
      generalize Form.farB x 10000000 = q at *
      generalize s.up k = ub at *
      generalize s.down k = db at *
      cases q with
      | false =>
        go_wp2_with (go_at_call 76; refine (Hf.out).mono ?_; rintro r w1 ⟨rfl, rfl⟩)
        go_ret
        exact ⟨by unfold Sp.mayB; rw [Hle.out (by rw [Hal.out]; rfl)]; rfl, HB.out⟩
      | true =>
        cases ub <;> cases db
        all_goals go_wp2_with (go_at_call 76; refine (Hf.out).mono ?_; rintro r w1 ⟨rfl, rfl⟩)
        all_goals go_round
        all_goals first
          | exact ⟨k + 1, by omega, by go_num, by rw [Hup.out]; rfl, by rw [Hdn.out]; rfl, by rw [Hal.out]; rfl⟩
          | (simp [intOf]; omega)
    · have hk16 : k = 16 := by omega
      subst hk16
      have hmay : s.mayB = (s.up 16 && (s.down 16 && (decide (s.number ≠ 0) && (Form.inB s.route 1 8 && (Form.inB s.tick 1 10000000 && (Form.inB s.lot 1 1000000 && (Form.inB s.band 0 10000000 && (Form.inB s.limit 1 10000000 && (Form.inB s.credit 0 10000000 && Form.priceB s.tick s.first))))))))) := by unfold Sp.mayB; rw [Hall.out]; rfl
      have hrt := Hok.out.route
      have Hmay := Lib.hid hmay
      clear hmay
      go_wp2_with (first
        | (go_at_call 77; refine (within_w _ _ _ _).mono ?_; rintro r w1 ⟨rfl, rfl⟩)
        | (go_at_call 78; refine (price_w _ _ _ (by have h : Form.inB s.tick 1 10000000 = true := by assumption
                                                    unfold Form.inB at h; simp at h; omega)).mono ?_; rintro r w1 ⟨rfl, rfl⟩))
      all_goals go_ret
      all_goals exact ⟨by rw [Hmay.out]; simp [*], HB.out⟩
end Go.Proofs.Ytoflehlkacofjaa
/- The data of a contract: the document's May. -/
namespace Go.Proofs.Ytoflehlkacofjaa
open Go.ChangeShapes Go.WideShapes Go.ChangeAt Go.RowKit
set_option linter.unusedVariables false
theorem far_in (x : Int) : Form.farB x 10000000 = Form.inB x (-10000000) 10000000 := by
  unfold Form.farB Form.inB
  rw [Bool.eq_iff_iff]; simp
theorem SpAt.sh {w : World} {B : Nat} {s : Sp} (h : SpAt w B s) (k : Nat) (hk : k < 16) : w.cell? ⟨B, 6 + k, none⟩ = some (.int .i64 (s.sh k)) := by rw [h.at, s.sh_at k hk]

set_option maxRecDepth 100000 in
set_option maxHeartbeats 3200000 in
theorem refmay_w (s : Sp) (w : World) (h : s.ok) : Calls Try.prog 57 #[.agg s.cells] w fun r w' => r = .returned (.bool s.mayB) ∧ Below w.heap.size w w' := by
  have HB := Lib.hid ((Below.refl w.heap.size w).alloc (Nat.le_refl _) (.cells s.cells 27))
  have HS := Lib.hid (SpAt.new w s)
  have d0 := (HS.out.at 0).trans (show s.cells[0]? = some (.int .u32 s.number) from rfl)
  have d1 := (HS.out.at 1).trans (show s.cells[1]? = some (.int .u8 s.route) from rfl)
  have d2 := (HS.out.at 2).trans (show s.cells[2]? = some (.int .i64 s.tick) from rfl)
  have d3 := (HS.out.at 3).trans (show s.cells[3]? = some (.int .i64 s.lot) from rfl)
  have d4 := (HS.out.at 4).trans (show s.cells[4]? = some (.int .i64 s.band) from rfl)
  have d5 := (HS.out.at 5).trans (show s.cells[5]? = some (.int .i64 s.limit) from rfl)
  have d22 := (HS.out.at 22).trans (show s.cells[22]? = some (.int .i64 s.credit) from rfl)
  have d24 := (HS.out.at 24).trans (show s.cells[24]? = some (.int .i64 s.first) from rfl)
  have Hok := Lib.hid h
  clear h
  by_cases hn : s.number = 0
  · have hf : s.mayB = false := by unfold Sp.mayB; simp [hn]
    have Hf := Lib.hid hf
    have e1 : decide (s.number = 0) = true := by simp [hn]
    have e2 : (s.number == 0) = true := by simp [hn]
    clear hf hn
    go_enter Try.func57, Try.ntmps57
    go_wp2
    go_ret
    exact ⟨by rw [Hf.out]; rfl, HB.out⟩
  · have e1 : decide (s.number = 0) = false := by simp [hn]
    have e2 : (s.number == 0) = false := by simp [hn]
    have Hn := Lib.hid hn
    clear hn
    by_cases hr : 1 ≤ s.route ∧ s.route ≤ 8
    · obtain ⟨hr1, hr2⟩ := hr
      have Hrt := Lib.hid (show Form.inB s.route 1 8 = true by unfold Form.inB; simp; omega)
      have hmay : s.mayB = (s.all 16 && (s.up 16 && (s.down 16 && (Form.inB s.tick 1 10000000 && (Form.inB s.lot 1 1000000 && (Form.inB s.band 0 10000000 && (Form.inB s.limit 1 10000000 && (Form.inB s.credit 0 10000000 && Form.priceB s.tick s.first)))))))) := by unfold Sp.mayB; rw [Hrt.out]; simp [Hn.out]
      have Hmay := Lib.hid hmay
      have e3 : decide (s.route < 1) = false := by simp; omega
      have e4 : decide (8 < s.route) = false := by simp; omega
      clear hmay
      go_enter Try.func57, Try.ntmps57
      go_wp2_with (go_at_call 79; refine (among_w _ _ _ _).mono ?_; rintro r w1 ⟨rfl, rfl⟩)
      all_goals try (
        go_ret
        refine ⟨?_, HB.out⟩
        first
          | (rw [Hmay.out]; simp [*]; done)
          | (have h8 : (!Form.inB s.credit 0 10000000) = true := by assumption
             have h9 : Form.inB s.credit 0 10000000 = false := by simpa using h8
             rw [Hmay.out, h9]; simp))
      have htk : 1 ≤ s.tick := by
        have h : Form.inB s.tick 1 10000000 = true := by assumption
        unfold Form.inB at h; simp at h; omega
      have t1 : Form.inB s.tick 1 10000000 = true := by assumption
      have t2 : Form.inB s.lot 1 1000000 = true := by assumption
      have t3 : Form.inB s.band 0 10000000 = true := by assumption
      have t4 : Form.inB s.limit 1 10000000 = true := by assumption
      have t5 : Form.inB s.credit 0 10000000 = true := by
        have h : (!Form.inB s.credit 0 10000000) = false := by assumption
        simpa using h
      have hm2 := Hmay.out
      rw [t1, t2, t3, t4, t5] at hm2
      simp only [Bool.true_and] at hm2
      have Hm2 := Lib.hid hm2
      simp only [t5, Bool.not_true]
      clear hm2 t1 t2 t3 t4 t5
      go_loop [3, 4, 5] (fun u d i => ∃ k c1 c2 : Nat, k ≤ 16 ∧ i = .int .i64 (k : Int) ∧ u = .int .i64 (c1 : Int) ∧ d = .int .i64 (c2 : Int) ∧ c1 ≤ k ∧ c2 ≤ k ∧ Hid (s.up k = decide (0 < c1)) ∧ Hid (s.down k = decide (0 < c2)) ∧ Hid (s.all k = true)) (fun _ _ i => 16 - (intOf i).toNat)
      case atStart => exact ⟨0, 0, 0, by decide, rfl, rfl, rfl, by decide, by decide, Lib.hid rfl, Lib.hid rfl, Lib.hid rfl⟩
      case round =>
        obtain ⟨k, c1, c2, hk, rfl, rfl, rfl, hc1, hc2, Hu, Hd, Hall⟩ := hrel
        by_cases hlt : k < 16
        · have hck := HS.out.sh k hlt
          have Hup := Lib.hid (s.up_succ k)
          have Hdn := Lib.hid (s.down_succ k)
          have Hal := Lib.hid (s.all_succ k)
          rw [Hall.out, far_in] at Hal
          rw [Hu.out] at Hup
          rw [Hd.out] at Hdn
          have Hle := Lib.hid (fun h => s.all_le (n := k + 1) (m := 16) (by omega) h)
          have H64 := Lib.hid (among_w (s.sh k) (-10000000) 10000000)
          generalize s.sh k = x at *
          generalize Form.inB x (-10000000) 10000000 = q at *
          cases q with
          | false =>
            go_wp2_with (go_at_call 79; refine (H64.out _).mono ?_; rintro r w1 ⟨rfl, rfl⟩)
            go_ret
            exact ⟨by rw [Hm2.out, Hle.out (by rw [Hal.out]; rfl)]; rfl, HB.out⟩
          | true =>
            have hx : x < 0 ∨ x = 0 ∨ 0 < x := by omega
            rcases hx with hx | rfl | hx
            · go_wp2_with (go_at_call 79; refine (H64.out _).mono ?_; rintro r w1 ⟨rfl, rfl⟩)
              go_round
              case rel => exact ⟨k + 1, c1, c2 + 1, by omega, by go_num, rfl, by go_num, by omega, by omega, Lib.hid (by rw [Hup.out, Bool.eq_iff_iff]; simp <;> omega), Lib.hid (by rw [Hdn.out, Bool.eq_iff_iff]; simp <;> omega), Lib.hid (by rw [Hal.out]; rfl)⟩
              case measure => simp [intOf]; omega
            · go_wp2_with (go_at_call 79; refine (H64.out _).mono ?_; rintro r w1 ⟨rfl, rfl⟩)
              go_round
              case rel => exact ⟨k + 1, c1, c2, by omega, by go_num, rfl, rfl, by omega, by omega, Lib.hid (by rw [Hup.out, Bool.eq_iff_iff]; simp <;> omega), Lib.hid (by rw [Hdn.out, Bool.eq_iff_iff]; simp <;> omega), Lib.hid (by rw [Hal.out]; rfl)⟩
              case measure => simp [intOf]; omega
            · go_wp2_with (go_at_call 79; refine (H64.out _).mono ?_; rintro r w1 ⟨rfl, rfl⟩)
              go_round
              case rel => exact ⟨k + 1, c1 + 1, c2, by omega, by go_num, by go_num, rfl, by omega, by omega, Lib.hid (by rw [Hup.out, Bool.eq_iff_iff]; simp <;> omega), Lib.hid (by rw [Hdn.out, Bool.eq_iff_iff]; simp <;> omega), Lib.hid (by rw [Hal.out]; rfl)⟩
              case measure => simp [intOf]; omega
        · have hk16 : k = 16 := by omega
          subst hk16
          have hm3 := Hm2.out
          rw [Hall.out, Hu.out, Hd.out] at hm3
          have Hm3 := Lib.hid hm3
          have hpb := (Hok.out.first).2
          clear hm3 Hu Hd
          by_cases h1 : 0 < c1
          · by_cases h2 : 0 < c2
            · go_wp2_with (go_at_call 80; refine (refprice_w _ _ _ htk hpb).mono ?_; rintro r w1 ⟨rfl, rfl⟩)
              go_ret
              exact ⟨by rw [Hm3.out]; simp [h1, h2], HB.out⟩
            · go_wp2
              go_ret
              exact ⟨by rw [Hm3.out]; simp [h2], HB.out⟩
          · go_wp2
            go_ret
            exact ⟨by rw [Hm3.out]; simp [h1], HB.out⟩
    · have hf : s.mayB = false := by unfold Sp.mayB; rw [show Form.inB s.route 1 8 = false by unfold Form.inB; simp; omega]; simp
      have Hf := Lib.hid hf
      have hrr : s.route < 1 ∨ 8 < s.route := by omega
      clear hf hr
      have hrb := Hok.out.route
      rcases hrr with hr | hr
      all_goals go_enter Try.func57, Try.ntmps57
      all_goals go_wp2
      all_goals go_ret
      all_goals exact ⟨by rw [Hf.out]; rfl, HB.out⟩
end Go.Proofs.Ytoflehlkacofjaa
/- The data of a contract: prices, quantities, bands. -/
namespace Go.Proofs.Ytoflehlkacofjaa
open Go.ChangeShapes Go.WideShapes Go.ChangeAt Go.RowKit
set_option linter.unusedVariables false
namespace Sp
end Sp
/-- The data at block B read whole. -/
theorem SpAt.below {w w' : World} {B : Nat} {s : Sp} (h : SpAt w B s) (hB : Below w.heap.size w w') : SpAt w' B s := by
  unfold SpAt at *
  rw [hB.block B (Array.getElem?_eq_some_iff.1 h).1]; exact h

end Go.Proofs.Ytoflehlkacofjaa
/- Behind which bytes a form is laid, and where: the finer frame of wire.Nat and wire.Int. -/
namespace Go.Proofs.Ytoflehlkacofjaa
open Go.ChangeShapes Go.WideShapes Go.ChangeAt Go.RowKit
set_option linter.unusedVariables false
/-- The new row lies where the old one lay, or in a block that was made since. -/
def Near (w : World) (v v' : Value) : Prop := v'.ownBlock = v.ownBlock ∨ ∃ g, v'.ownBlock = some g ∧ w.heap.size ≤ g
theorem Near.refl (w : World) (v : Value) : Near w v v := .inl rfl
theorem Near.trans {w w1 : World} {v v1 v2 : Value} (h : Near w v v1) (k : Near w1 v1 v2) (hs : w.heap.size ≤ w1.heap.size) : Near w v v2 := by
  rcases k with k | ⟨g, k, hg⟩
  · rcases h with h | ⟨g, h, hg⟩
    · exact .inl (k.trans h)
    · exact .inr ⟨g, k.trans h, hg⟩
  · exact .inr ⟨g, k, Nat.le_trans hs hg⟩
theorem grown_near {w w1 w2 : World} {v v1 : Value} (h : w.grownBy w1 v.ownBlock) (k : w1.grownBy w2 v1.ownBlock) (hn : Near w v v1) : w.grownBy w2 v.ownBlock := by
  refine ⟨k.os.trans h.os, k.tape.trans h.tape, k.output.trans h.output, Nat.le_trans h.size k.size, fun b hb hne => ?_⟩
  rw [k.block b (Nat.lt_of_lt_of_le hb h.size) ?_, h.block b hb hne]
  rcases hn with e | ⟨g, e, hg⟩
  · rw [e]; exact hne
  · rw [e]; intro e2; cases e2; omega

section
variable {P : Program} {ops : Array Oper} {rest : List Oper} {o : Oper} {a : Act} {w : World} {Q : Exit → Act → World → Prop}
/-- append(dst, src...) of bytes, and where the new row lies. -/
theorem wpList_append_bytes_at (hgd : o.guard = none) (s x : Operand) (t : TypeId) (ho : o.op = .call { callee := .builtin .append, args := #[s, x], argTypes := #[t, t] })
    {base : Nat} {e : TypeId} (he : Elem P t e (.int .u8 0) 1 1)
    {v : Value} {l : List UInt8} (hs : a.eval s = v) (hown : OB w base e v l) {xv : Value} {m : List UInt8} (hx : a.eval x = xv) (hsrc : RdB w xv m)
    (hlen : l.length + m.length ≤ 140737488355328) (hbase : base ≤ w.heap.size)
    (h : ∀ p n c w', n = (l ++ m).length → OB w' base e (.slice p n c) (l ++ m) → w.grownBy w' v.ownBlock → Near w v (.slice p n c) → wpList P ops Q rest (a.put o.dst (.slice p n c)) w') : wpList P ops Q (o :: rest) a w := by
  refine wpList_plain hgd fun _ hK => ?_
  have key : ∃ v' w', (Builtin.append_ #[t, t] o.type #[v, xv]).run P w = .ok v' w' ∧ w'.ownsRow base e 1 v' (l.length + m.length) (l.map vb ++ m.map vb) ∧ w.grownBy w' v.ownBlock ∧ Near w v v' := by
    obtain ⟨i, hi, hz, hsz, hb⟩ := info_parts he.info
    obtain ⟨p, c, rfl, hl, h1, hp⟩ := hsrc.src
    rcases hp with ⟨rfl, hm0, rfl⟩ | ⟨ad, rfl, hnews⟩
    · have hm : m = [] := List.eq_nil_of_length_eq_zero hm0
      subst hm
      exact ⟨v, w, run_append_owned_none w base t o.type e i 1 he.sl hi v _ _ hown, by have h := hown; unfold OB at h; simpa using h, World.grownBy.refl _ _, Near.refl _ _⟩
    · obtain ⟨v', w', h2, h3, h4, _, h5⟩ := run_append_own_at (P := P) w base t o.type e i _ 1 1 he.sl hi hz hsz hb he.zs he.pos v _ _ hown ad m.length c (m.map vb) hl hnews h1 (by unfold maxLen; omega) (by omega) hbase
      exact ⟨v', w', h2, h3, h4, h5.imp id fun h => ⟨_, h, Nat.le_refl _⟩⟩
  obtain ⟨v', w', hr, h2, h3, h4⟩ := key
  have h5 : OB w' base e v' (l ++ m) := by unfold OB; rw [List.map_append, List.length_append]; exact h2
  obtain ⟨p, c, rfl⟩ := h5.form
  unfold Oper.wp execOp
  simp only [ho, resolve, invoke, builtin, Sem.run_bind, Sem.run_pure, Result.andThen_ok, List.map_toArray, List.map_cons, List.map_nil, hs, hx, hr]
  exact hK _ _ (h p _ c w' rfl h5 h3 h4)
end
theorem grown_of_alloc {w w' : World} {o : Obj} {row : Option Nat} (h : (w.alloc o).grownBy w' row) : w.grownBy w' row :=
  ⟨h.os, h.tape, h.output, Nat.le_trans (by simp) h.size, fun b hb hne => by rw [h.block b (by simp; omega) hne]; exact Below.heap_alloc w o b hb⟩
theorem near_of_alloc {w : World} {o : Obj} {v v' : Value} (h : Near (w.alloc o) v v') : Near w v v' := h.imp id fun ⟨g, e, hg⟩ => ⟨g, e, by simp at hg; omega⟩

set_option maxRecDepth 100000 in
set_option maxHeartbeats 800000 in
theorem nat2_w (base : Nat) (v : Value) (l : List UInt8) (n : Nat) (w : World) (ho : OB w base 5 v l) (hn : n < 2 ^ 64) (hl : l.length ≤ 1000000) (hb : base ≤ w.heap.size) :
    Calls Try.prog 25 #[v, .int .u64 (n : Int)] w fun e w' => ∃ p k c, e = .returned (.slice p k c) ∧ k = (l ++ Form.nat n).length ∧ OB w' base 5 (.slice p k c) (l ++ Form.nat n) ∧ w.grownBy w' v.ownBlock ∧ Near w v (.slice p k c) := by
  obtain ⟨p0, c0, rfl⟩ := ho.form
  have Ho := Lib.hid ho
  have h10 := Form.nat_len10 hn
  have H10 := Lib.hid h10
  clear ho h10
  go_enter Try.func25, Try.ntmps25
  go_wp2
  go_loopw [0, 1] (fun b x wr => ∃ (m : Nat) (p : Option Addr) (k c : Nat) (o : List UInt8), m < 18446744073709551616 ∧ x = .int .u64 (m : Int) ∧ b = .slice p k c ∧ k = o.length ∧ o ++ Form.nat m = l ++ Form.nat n ∧ OB wr base 5 (.slice p k c) o ∧ w.grownBy wr (Value.slice p0 l.length c0).ownBlock ∧ Near w (.slice p0 l.length c0) (.slice p k c)) (fun _ x _ => (intOf x).toNat)
  case atStart => exact ⟨n, p0, _, c0, l, by omega, rfl, rfl, rfl, rfl, Ho.out, World.grownBy.refl _ _, Near.refl _ _⟩
  case round =>
    obtain ⟨m, p, k, c, o, hm, rfl, rfl, hk, he, ho, hB, hN⟩ := hrel
    have He := Lib.hid he
    have Hk := Lib.hid hk
    have HB := Lib.hid hB
    have HO := Lib.hid ho
    have HN := Lib.hid hN
    have hlen : o.length + 1 ≤ 1000011 := by have := congrArg List.length he; rw [List.length_append, List.length_append] at this; have := Form.nat_pos m; have := H10.out; omega
    have hbw : base ≤ wr.heap.size := by have := hB.size; omega
    clear he hk hB ho hN
    obtain ⟨y8, hy8⟩ : ∃ y, y = m % 256 := ⟨_, rfl⟩
    have hw8 := wrap_u8_nat m
    rw [← hy8] at hw8
    by_cases hbig : 128 ≤ m
    · obtain ⟨x8, hx8⟩ : ∃ x, x = m % 128 + 128 := ⟨_, rfl⟩
      have hor := or128_u8 y8 (by omega)
      rw [show y8 % 128 + 128 = x8 by omega] at hor
      obtain ⟨m7, hm7⟩ : ∃ x, x = m / 128 := ⟨_, rfl⟩
      have Hm7 := Lib.hid hm7
      have Hone := Lib.hid (RdB_one wr 5 x8 (by omega))
      have HO1 := Lib.hid (HO.out.alloc (.cells #[.int .u8 (x8 : Int)] 5))
      have Hxm := Lib.hid (show x8 = m % 128 + 128 from hx8)
      clear hx8 hy8 hm7
      go_wp2_with (refine wpList_append_bytes_at rfl (.tmp 7) (.tmp 11) 39 rfl hel rfl HO1.out rfl Hone.out (by simp; omega) (by simp; omega) ?_; intro p1 n1 c1 w1 hn1 ho1 hg1 hnr1; have Hn1 := Lib.hid hn1; have Ho1 := Lib.hid ho1; have Hg1 := Lib.hid (grown_near HB.out (grown_of_alloc hg1) HN.out); have Hnr := Lib.hid (HN.out.trans (near_of_alloc hnr1) HB.out.size); clear hn1 ho1 hg1 hnr1)
      go_roundw
      case rel =>
        refine ⟨m7, p1, n1, c1, _, by have := Hm7.out; omega, by have := Hm7.out; congr 1; omega, rfl, Hn1.out, ?_, Ho1.out, Hg1.out, Hnr.out⟩
        rw [← He.out, Form.nat_big (n := m) (by omega), List.append_assoc, Hm7.out, Hxm.out]; rfl
      case measure => have := Hm7.out; simp [intOf]; omega
    · have Hone := Lib.hid (RdB_one wr 5 y8 (by omega))
      have HO1 := Lib.hid (HO.out.alloc (.cells #[.int .u8 (y8 : Int)] 5))
      have he := He.out
      rw [Form.nat_small (n := m) (by omega), show m = y8 by omega] at he
      have He2 := Lib.hid he
      clear he hy8
      go_wp2_with (refine wpList_append_bytes_at rfl (.tmp 15) (.tmp 18) 39 rfl hel rfl HO1.out rfl Hone.out (by simp; omega) (by simp; omega) ?_; intro p1 n1 c1 w1 hn1 ho1 hg1 hnr1; have Hn1 := Lib.hid hn1; have Ho1 := Lib.hid ho1; have Hg1 := Lib.hid (grown_near HB.out (grown_of_alloc hg1) HN.out); have Hnr := Lib.hid (HN.out.trans (near_of_alloc hnr1) HB.out.size); clear hn1 ho1 hg1 hnr1)
      go_ret
      refine ⟨p1, n1, c1, rfl, ?_, ?_, Hg1.out, Hnr.out⟩
      · rw [← He2.out]; exact Hn1.out
      · rw [← He2.out]; exact Ho1.out

set_option maxRecDepth 100000 in
theorem int2_w (base : Nat) (v : Value) (l : List UInt8) (i : Int) (w : World) (ho : OB w base 5 v l) (h1 : -9223372036854775808 ≤ i) (h2 : i ≤ 9223372036854775807) (hl : l.length ≤ 1000000) (hb : base ≤ w.heap.size) :
    Calls Try.prog 28 #[v, .int .i64 i] w fun e w' => ∃ p k c, e = .returned (.slice p k c) ∧ k = (l ++ Form.nat (Form.fold i)).length ∧ OB w' base 5 (.slice p k c) (l ++ Form.nat (Form.fold i)) ∧ w.grownBy w' v.ownBlock ∧ Near w v (.slice p k c) := by
  have H1 := Lib.hid (folded_w i w h1 h2)
  have H2 := Lib.hid (nat2_w base v l (Form.fold i) w ho (Form.fold_lt h1 h2) hl hb)
  obtain ⟨p0, c0, rfl⟩ := ho.form
  clear ho
  go_enter Try.func28, Try.ntmps28
  go_wp2_with (first
    | (go_at_call 71; refine (H1.out).mono ?_; rintro e w1 ⟨rfl, rfl⟩)
    | (go_at_call 25; refine (H2.out).mono ?_; rintro e w1 ⟨p, k, c, rfl, hk, ho, hB⟩; have Hfin := Lib.hid (And.intro hk (And.intro ho hB)); clear hk ho hB))
  go_ret
  exact ⟨_, _, _, rfl, Hfin.out⟩
end Go.Proofs.Ytoflehlkacofjaa
