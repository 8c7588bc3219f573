/- Walks of the reader: Nat, Done; known. -/
import Derived.Test.YtpbdnndpdidagaaW4
namespace Go.Proofs.Ytpbdnndpdidagaa
open Go.ChangeShapes Go.WideShapes Go.ChangeAt Go.RowKit
set_option linter.unusedVariables false

set_option maxRecDepth 100000 in
theorem rnat_w (g : Nat) (v : Value) (b : List UInt8) (a : Nat) (e : Int) (w : World) (h : Rdr w g v a e) (hb : RdB w v b) (ha : a ≤ b.length) (hl : b.length ≤ 1000000) :
    Calls Try.prog 30 #[.pointer (some ⟨g, 0, none⟩)] w fun r w' => ∃ n a' : Nat, ∃ e' : Int, Form.small b a e 18446744073709551615 = (n, a', e') ∧ r = .returned (.int .u64 (n : Int)) ∧ Moved w w' g v a' e' := by
  have H := Lib.hid (small_w g v b a e 18446744073709551615 w h hb ha hl (by decide))
  clear h
  go_enter Try.func30, Try.ntmps30
  go_wp2_with (go_at_call 37; refine (H.out).mono ?_; rintro r w1 ⟨n, a', e', h1, rfl, h2⟩; have Hfin := Lib.hid (And.intro h1 h2); clear h1 h2)
  go_ret
  exact ⟨n, a', e', Hfin.out.1, rfl, Hfin.out.2⟩

set_option maxRecDepth 100000 in
theorem done_w (g : Nat) (v : Value) (b : List UInt8) (a : Nat) (e : Int) (w : World) (h : Rdr w g v a e) (hb : RdB w v b) (ha : a ≤ b.length) :
    Calls Try.prog 35 #[.pointer (some ⟨g, 0, none⟩)] w fun r w' => r = .returned (.int .i64 (Form.done b.length a e)) ∧ RegT.Same w w' := by
  obtain ⟨p, c, rfl, hp⟩ := hb
  have hc0 := h.cell0
  have hc1 := h.cell1
  have hc2 := h.cell2
  clear h hp
  by_cases h0 : e = 0
  · subst h0
    by_cases h1 : a < b.length
    · have hd : decide ((a : Int) < (b.length : Int)) = true := by simp; omega
      go_enter Try.func35, Try.ntmps35
      go_wp2
      go_quiet (fail)
      go_wp2
      go_ret
      refine ⟨?_, ⟨rfl, rfl, rfl, rfl⟩⟩
      unfold Form.done; rw [if_pos ⟨rfl, h1⟩]; rfl
    · have hd : decide ((a : Int) < (b.length : Int)) = false := by simp; omega
      go_enter Try.func35, Try.ntmps35
      go_wp2
      go_quiet (fail)
      go_wp2
      go_ret
      refine ⟨?_, ⟨rfl, rfl, rfl, rfl⟩⟩
      unfold Form.done; rw [if_neg (fun h => h1 h.2)]; rfl
  · have hd : decide (e = 0) = false := by simp [h0]
    have hd' : (e == 0) = false := by simp [h0]
    have H0 := Lib.hid h0
    clear h0
    go_enter Try.func35, Try.ntmps35
    go_wp2
    go_quiet (fail)
    go_wp2
    go_ret
    refine ⟨?_, ⟨rfl, rfl, rfl, rfl⟩⟩
    unfold Form.done; rw [if_neg (fun h => H0.out h.1)]; rfl

theorem nat300 : Form.nat 300 = [172, 2] := by rw [Form.nat_big (by decide), Form.nat_small (by decide)]; rfl
set_option maxRecDepth 100000 in
set_option maxHeartbeats 800000 in
theorem known_w (w : World) : Calls Try.prog 18 #[] w fun e w' => e = .returned (.bool true) ∧ Below w.heap.size w w' := by
  have H1 := Lib.hid (nat_w w.heap.size (.slice none 0 0) [] 300 w (OB.nil _ _ _) (by decide) (by decide) (Nat.le_refl _))
  rw [nat300] at H1
  go_enter Try.func18, Try.ntmps18
  go_wp2_with (first
    | (go_at_call 16; refine (H1.out).mono ?_; rintro e w1 ⟨p, k, c, rfl, rfl, ho, hB⟩; obtain ⟨g0, rfl, hg0⟩ := ho.some (by decide); have hc0 := (ho.cell rfl (j := 0) (by decide)).1; have hc1 := (ho.cell rfl (j := 1) (by decide)).1; have HB := Lib.hid hB; clear ho hB hg0; simp only [List.nil_append, List.length_cons, List.length_nil, Nat.zero_add, Nat.reduceAdd])
    | (go_at_call 29; refine (new_w _ _ _ _).mono ?_; rintro e w2 ⟨rfl, hw2⟩
       have hk : Keeps w1 w2 := by rw [hw2]; exact ((Keeps.refl w1).alloc _).alloc _
       have hr : Rdr w2 (w1.heap.size + 1) (.slice (some ⟨w1.heap.size, 0, none⟩) 2 2) 0 0 := by rw [hw2]; have := heap_alloc_new (w1.alloc (.cells #[.int .u8 128, .int .u8 0] 5)) (.cells #[.slice (some ⟨w1.heap.size, 0, none⟩) 2 2, .int .i64 0, .int .i64 0] 79); rwa [heap_alloc_size] at this
       have hb : RdB w2 (.slice (some ⟨w1.heap.size, 0, none⟩) 2 2) [128, 0] := by
         rw [hw2]
         refine RdB.keeps (w := w1.alloc (.cells #[.int .u8 128, .int .u8 0] 5)) (RdB_of_block (heap_alloc_new w1 _) rfl (by decide) (by decide) fun i hi => ?_) ((Keeps.refl _).alloc _)
         match i, hi with
         | 0, _ => rfl
         | 1, _ => rfl
       have hc0 := hk.cell hc0
       have hc1 := hk.cell hc1
       have HB2 := Lib.hid (show Below w.heap.size w w2 by rw [hw2]; exact (HB.out.alloc HB.out.size _).alloc (by have := HB.out.size; simp; omega) _)
       have Hr := Lib.hid hr
       have Hb := Lib.hid hb
       clear hk hr hb hw2)
    | (go_at_call 30; refine (rnat_w _ _ _ _ _ _ Hr.out Hb.out (by decide) (by decide)).mono ?_
       rintro e w3 ⟨n, a', e', hsm, rfl, hm⟩
       have hsm2 : Form.small [128, 0] 0 0 18446744073709551615 = (0, 0, 5) := by decide +kernel
       rw [hsm2] at hsm; cases hsm
       have Hm := Lib.hid hm
       clear hm hsm2)
    | (go_at_call 35; (refine (done_w _ _ [128, 0] _ _ _ Hm.out.1 (Hb.out.grown Hm.out.2 (fun a n c e _ => by cases e; exact Nat.ne_of_lt (Nat.lt_succ_self _))) (by decide)).mono ?_; rintro e w4 ⟨he, hs⟩; rw [show Form.done ([128, 0] : List UInt8).length 0 5 = 5 by decide] at he; subst he; have HS := Lib.hid hs; clear hs)))
  go_ret
  exact ⟨rfl, (HB2.out.grown Hm.out.2 HB2.out.size (fun k e => by cases e; have := HB.out.size; omega)).trans HS.out.below⟩
end Go.Proofs.Ytpbdnndpdidagaa
