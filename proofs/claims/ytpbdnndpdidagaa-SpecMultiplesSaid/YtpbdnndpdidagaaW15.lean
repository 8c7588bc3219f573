/- Walk of the law WireNone. -/
import Derived.Test.YtpbdnndpdidagaaW14
namespace Go.Proofs.Ytpbdnndpdidagaa
open Go.ChangeShapes Go.WideShapes Go.ChangeAt Go.RowKit
set_option linter.unusedVariables false

theorem rint_bad_w (g : Nat) (v : Value) (a : Nat) (e : Int) (w : World) (h : Rdr w g v a e) (h0 : e ≠ 0) :
    Calls Try.prog 31 #[.pointer (some ⟨g, 0, none⟩)] w fun r w' => r = .returned (.int .i64 0) ∧ w = w' := by
  have H := Lib.hid (rnat_bad_w g v a e w h h0)
  have e1 : bits .xor .i64 0 0 = 0 := by decide
  have e2 : bits .and .u64 0 1 = 0 := by decide
  clear h0 h
  go_enter Try.func31, Try.ntmps31
  go_wp2_with (go_at_call 30; refine (H.out).mono ?_; rintro e w1 ⟨rfl, rfl⟩)
  go_ret
  exact ⟨rfl, rfl⟩
theorem rflag_bad_w (g : Nat) (v : Value) (a : Nat) (e : Int) (w : World) (h : Rdr w g v a e) (h0 : e ≠ 0) :
    Calls Try.prog 40 #[.pointer (some ⟨g, 0, none⟩)] w fun r w' => r = .returned (.bool false) ∧ w = w' := by
  have Hoff := Lib.hid (off_w g v a e w h)
  have hd : decide (e ≠ 0) = true := by simp [h0]
  clear h0 h
  go_enter Try.func40, Try.ntmps40
  go_wp2_with (go_at_call 60; refine (Hoff.out).mono ?_; rintro e w1 ⟨rfl, rfl⟩)
  go_ret
  exact ⟨rfl, rfl⟩
theorem rtext_bad_w (g : Nat) (v : Value) (a : Nat) (e m : Int) (w : World) (h : Rdr w g v a e) (h0 : e ≠ 0) :
    Calls Try.prog 32 #[.pointer (some ⟨g, 0, none⟩), .int .i64 m] w fun r w' => r = .returned (.slice none 0 0) ∧ w = w' := by
  have Hoff := Lib.hid (off_w g v a e w h)
  have hd : decide (e ≠ 0) = true := by simp [h0]
  clear h0 h
  go_enter Try.func32, Try.ntmps32
  go_wp2_with (go_at_call 60; refine (Hoff.out).mono ?_; rintro e w1 ⟨rfl, rfl⟩)
  go_ret
  exact ⟨rfl, rfl⟩

set_option maxRecDepth 100000 in
set_option maxHeartbeats 1600000 in
theorem none_w (vb_ : Value) (b : List UInt8) (most e : Int) (w : World) (hb : RdB w vb_ b) :
    Calls Try.prog 8 #[vb_, .int .i64 most, .int .i64 e] w fun r w' => r = .returned (.bool true) ∧ Below w.heap.size w w' := by
  have Hb := Lib.hid hb
  obtain ⟨p, c, rfl, hp⟩ := hb
  have hlb := Hb.out.le
  clear hp
  by_cases hl : 100000 < b.length
  · have hd1 : decide (100000 < (b.length : Int)) = true := by simp; omega
    go_enter Try.func8, Try.ntmps8
    go_wp2_with (go_at_call 18; with_reducible refine (known_w _).mono ?_; rintro e w2 ⟨rfl, hB⟩; have HB2 := Lib.hid hB; clear hB)
    go_ret
    exact ⟨rfl, HB2.out⟩
  · have hd1 : decide (100000 < (b.length : Int)) = false := by simp; omega
    by_cases h0 : e = 0
    · subst h0
      go_enter Try.func8, Try.ntmps8
      go_wp2_with (go_at_call 18; with_reducible refine (known_w _).mono ?_; rintro e w2 ⟨rfl, hB⟩; have HB2 := Lib.hid hB; clear hB)
      go_ret
      exact ⟨rfl, HB2.out⟩
    · have hd2 : decide (e = 0) = false := by simp [h0]
      have hd3 : (e == 0) = false := by simp [h0]
      have H0 := Lib.hid h0
      clear h0
      have hdone : Form.done b.length 0 e = e := by unfold Form.done; rw [if_neg (fun h => H0.out h.1)]
      have Hdone := Lib.hid hdone
      clear hdone
      go_enter Try.func8, Try.ntmps8
      go_wp2_with (first
        | (go_at_call 43; refine (fail_nil_w _ _).mono ?_; rintro r w1 ⟨rfl, rfl⟩)
        | (go_at_call 30; refine (rnat_nil_w _).mono ?_; rintro r w1 ⟨rfl, rfl⟩)
        | (go_at_call 37; refine (small_nil_w _ _).mono ?_; rintro r w1 ⟨rfl, rfl⟩)
        | (go_at_call 31; refine (rint_nil_w _).mono ?_; rintro r w1 ⟨rfl, rfl⟩)
        | (go_at_call 40; refine (rflag_nil_w _).mono ?_; rintro r w1 ⟨rfl, rfl⟩)
        | (go_at_call 32; refine (rtext_nil_w _ _).mono ?_; rintro r w1 ⟨rfl, rfl⟩)
        | (go_at_call 34; refine (left_nil_w _).mono ?_; rintro r w1 ⟨rfl, rfl⟩)
        | (go_at_call 35; refine (done_nil_w _).mono ?_; rintro r w1 ⟨rfl, rfl⟩)
        | (go_at_call 29; fail))
      refine (new_w _ _ _ _).mono ?_
      rintro r w2 ⟨rfl, hw2⟩
      have hr : Rdr w2 w.heap.size (.slice p b.length c) 0 0 := by rw [hw2]; exact heap_alloc_new w _
      have hB2 : Below w.heap.size w w2 := by rw [hw2]; exact (Below.refl _ _).alloc (Nat.le_refl _) _
      have Hr := Lib.hid hr
      have HB2 := Lib.hid hB2
      have Hb2 := Lib.hid (Hb.out.below hB2)
      have hoff : Off (.slice p b.length c) w.heap.size := Hb.out.off (Nat.le_refl _)
      have Hoff := Lib.hid hoff
      clear hr hB2 hw2 hoff
      go_wp2_with (first
        | (go_at_call 43; refine (fail_w _ _ _ _ _ _ Hr.out).mono ?_; rintro r w3 ⟨rfl, hm⟩; have Hm := Lib.hid (show Moved w2 w3 w.heap.size (.slice p b.length c) 0 e from hm); clear hm)
        | (go_at_call 30; refine (rnat_bad_w _ _ _ _ _ Hm.out.1 H0.out).mono ?_; rintro r w1 ⟨rfl, rfl⟩)
        | (go_at_call 31; refine (rint_bad_w _ _ _ _ _ Hm.out.1 H0.out).mono ?_; rintro r w1 ⟨rfl, rfl⟩)
        | (go_at_call 40; refine (rflag_bad_w _ _ _ _ _ Hm.out.1 H0.out).mono ?_; rintro r w1 ⟨rfl, rfl⟩)
        | (go_at_call 32; refine (rtext_bad_w _ _ _ _ _ _ Hm.out.1 H0.out).mono ?_; rintro r w1 ⟨rfl, rfl⟩)
        | (go_at_call 34; refine (left_w _ _ b _ _ _ Hm.out.1 (Hb2.out.grown Hm.out.2 Hoff.out) (Nat.zero_le _) (by omega)).mono ?_; rintro r w4 ⟨rfl, hs⟩; have HS := Lib.hid hs; clear hs; rw [Nat.sub_zero])
        | (go_at_call 35; refine (done_w _ _ b _ _ _ (Hm.out.1.same HS.out) ((Hb2.out.grown Hm.out.2 Hoff.out).keeps (.of_heap HS.out.heap)) (Nat.zero_le _)).mono ?_; rintro r w5 ⟨rfl, hs⟩; have HS2 := Lib.hid hs; clear hs; rw [Hdone.out])
        | (go_at_call 18; with_reducible refine (known_w _).mono ?_; rintro e w6 ⟨rfl, hB⟩; have HB6 := Lib.hid hB; clear hB))
      go_ret
      have hB3 : Below w.heap.size w w3 := HB2.out.grown Hm.out.2 HB2.out.size (fun k e => by cases e; exact Nat.le_refl _)
      have hB5 : Below w.heap.size w w5 := (hB3.trans HS.out.below).trans HS2.out.below
      exact ⟨rfl, hB5.trans (HB6.out.mono hB5.size)⟩
end Go.Proofs.Ytpbdnndpdidagaa
