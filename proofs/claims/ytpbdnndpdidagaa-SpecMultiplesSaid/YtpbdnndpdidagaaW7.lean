/- Walks of wire.Text and of the law WirePrefix. -/
import Derived.Test.YtpbdnndpdidagaaW6
import Derived.WalkSmall
namespace Go.Proofs.Ytpbdnndpdidagaa
open Go.ChangeShapes Go.WideShapes Go.ChangeAt Go.RowKit
set_option linter.unusedVariables false

namespace Form
def begins (x y : List UInt8) : Bool := decide (x.length ≤ y.length) && decide (y.take x.length = x)
theorem begins_iff (x y : List UInt8) : begins x y = true ↔ x <+: y := by
  unfold begins
  rw [Bool.and_eq_true, decide_eq_true_iff, decide_eq_true_iff]
  constructor
  · rintro ⟨h1, h2⟩
    exact ⟨y.drop x.length, by rw [← h2, List.length_take, Nat.min_eq_left h1, h2]; rw [← h2, List.length_take, Nat.min_eq_left h1]; exact List.take_append_drop _ _⟩
  · rintro ⟨t, rfl⟩
    exact ⟨by simp, by simp⟩
def text (b : List UInt8) : List UInt8 := nat b.length ++ b
theorem begins_nat (n m : Nat) : begins (nat n) (nat m) = decide (n = m) := by
  by_cases h : n = m
  · subst h; rw [decide_eq_true rfl]; exact (begins_iff _ _).2 (List.prefix_refl _)
  · rw [decide_eq_false h, ← Bool.not_eq_true, begins_iff]
    exact fun h2 => h (nat_prefix h2)
theorem begins_int (i j : Int) : begins (nat (fold i)) (nat (fold j)) = decide (i = j) := by
  rw [begins_nat]
  by_cases h : i = j
  · rw [h]; simp
  · rw [decide_eq_false h, decide_eq_false (fun h2 => h (fold_inj h2))]
theorem begins_text (a b : List UInt8) : begins (text a) (text b) = decide (a = b) := by
  by_cases h : a = b
  · subst h; rw [decide_eq_true rfl]; exact (begins_iff _ _).2 (List.prefix_refl _)
  · rw [decide_eq_false h, ← Bool.not_eq_true, begins_iff]
    rintro ⟨t, ht⟩
    unfold text at ht
    rw [List.append_assoc] at ht
    obtain ⟨h1, h2⟩ := nat_begins _ _ _ _ ht
    have h3 := congrArg List.length h2
    rw [List.length_append] at h3
    have : t = [] := List.eq_nil_of_length_eq_zero (by omega)
    subst this
    rw [List.append_nil] at h2
    exact h h2
end Form

set_option maxRecDepth 100000 in
theorem text_w (w0 : World) (v tv : Value) (l t : List UInt8) (w : World) (ho : OB w w0.heap.size 5 v l) (ht : RdB w0 tv t) (hB : Below w0.heap.size w0 w) (hl : l.length ≤ 1000000) (htl : t.length ≤ 1000000) :
    Calls Try.prog 20 #[v, tv] w fun e w' => ∃ p k c, e = .returned (.slice p k c) ∧ k = (l ++ Form.text t).length ∧ OB w' w0.heap.size 5 (.slice p k c) (l ++ Form.text t) ∧ Below w0.heap.size w w' := by
  have Hn := Lib.hid (nat_w w0.heap.size v l t.length w ho (by omega) hl hB.size)
  have Ht := Lib.hid ht
  have HB := Lib.hid hB
  have hl10 : (l ++ Form.nat t.length).length ≤ 1000010 := by rw [List.length_append]; have := Form.nat_len10 (n := t.length) (by omega); omega
  have Hl10 := Lib.hid hl10
  obtain ⟨p0, c0, rfl⟩ := ho.form
  obtain ⟨tp, tc, rfl, htp⟩ := ht
  have hw : IntKind.u64.wrap (t.length : Int) = (t.length : Int) := IntWalk.u64_in _ (by omega)
  clear ho htp hB hl10
  go_enter Try.func20, Try.ntmps20
  go_wp2_with (first
    | (go_at_call 16; with_reducible refine (Hn.out).mono ?_; rintro e w1 ⟨p, k, c, rfl, hk, ho1, hB1⟩; have Hk := Lib.hid hk; have Ho := Lib.hid ho1; have HB1 := Lib.hid hB1; have Htw := Lib.hid (Ht.out.below (HB.out.trans hB1)); clear hk ho1 hB1)
    | (refine wpList_append_bytes rfl (.tmp 9) (.tmp 10) 24 rfl hel rfl (by have := Ho.out; rw [Hk.out] at this ⊢; exact this) rfl Htw.out (by have := Hl10.out; omega) (HB.out.trans HB1.out).size ?_; intro p1 n1 c1 w2 hn1 ho2 hg2; have Hfin := Lib.hid (And.intro hn1 (And.intro ho2 (HB1.out.trans (below_own Ho.out hg2 (HB.out.trans HB1.out).size)))); clear hn1 ho2 hg2))
  go_ret
  have h := Hfin.out
  rw [List.append_assoc] at h
  exact ⟨_, _, _, rfl, h⟩

theorem str_beq (t x : List UInt8) : ((⟨t.toArray⟩ : ByteArray).toList == (⟨x.toArray⟩ : ByteArray).toList) = decide (t = x) := by
  rw [ByteArray.toList_eq, ByteArray.toList_eq]
  by_cases h : t = x
  · subst h; simp
  · rw [decide_eq_false h]; simpa using h

set_option maxRecDepth 100000 in
theorem begins_w (vx vy : Value) (x y : List UInt8) (w : World) (hx : RdB w vx x) (hy : RdB w vy y) (hlx : x.length ≤ 1000000) (hly : y.length ≤ 1000000) :
    Calls Try.prog 19 #[vx, vy] w fun e w' => e = .returned (.bool (Form.begins x y)) ∧ ∃ m, w' = w.drewN m := by
  have hxc := fun (W : World) (hW : W.heap = w.heap) => run_convert_str (P := Try.prog) (w := W) (hx.keeps (.of_heap hW)) 24 5 9 Try.underlying24 Try.underlying5 Try.underlying9
  obtain ⟨px, cx, rfl, hpx⟩ := hx
  obtain ⟨py, cy, rfl, hpy⟩ := hy
  by_cases hle : x.length ≤ y.length
  · have hd : decide ((x.length : Int) ≤ (y.length : Int)) = true := by simp; omega
    have hyc := fun (W : World) (hW : W.heap = w.heap) => run_convert_str (P := Try.prog) (w := W) (v := .slice py x.length cy) (l := y.take x.length) ⟨py, cy, by rw [List.length_take, Nat.min_eq_left hle], (hpy.take x.length).keeps (.of_heap hW)⟩ 24 5 9 Try.underlying24 Try.underlying5 Try.underlying9
    have hsl := fun (W : World) => run_slice_hi 24 5 Try.underlying24 1 (show (Try.prog.info? 5).map (·.size) = some 1 by kernel_rfl) py y.length cy x.length (Nat.le_trans hle hpy.2.1) W
    have hb : Form.begins x y = decide (y.take x.length = x) := by unfold Form.begins; rw [decide_eq_true hle, Bool.true_and]
    rw [hb]
    generalize y.take x.length = t at *
    generalize hs1 : (⟨t.toArray⟩ : ByteArray) = s1 at *
    generalize hs2 : (⟨x.toArray⟩ : ByteArray) = s2 at *
    obtain ⟨bq, hbq⟩ : ∃ bq, decide (t = x) = bq := ⟨_, rfl⟩
    have hss : (s1.toList == s2.toList) = bq := by rw [← hs1, ← hs2, ← hbq]; exact str_beq t x
    rw [hbq]
    have hxc1 := fun (k : Nat) => hxc (w.drewN k) rfl
    have hyc1 := fun (k : Nat) => hyc (w.drewN k) rfl
    clear hs1 hs2 hpx hpy hxc hyc hb hbq
    go_enter Try.func19, Try.ntmps19
    go_wp2
    go_quiet (fail)
    go_wp2
    go_ret
    exact ⟨rfl, _, rfl⟩
  · have hd : decide ((x.length : Int) ≤ (y.length : Int)) = false := by simp; omega
    have hb : Form.begins x y = false := by unfold Form.begins; rw [decide_eq_false hle, Bool.false_and]
    rw [hb]
    clear hpx hpy hxc hb
    go_enter Try.func19, Try.ntmps19
    go_wp2
    go_quiet (fail)
    go_wp2
    go_ret
    exact ⟨rfl, _, rfl⟩

theorem drewN_same (w : World) (k : Nat) : RegT.Same w (w.drewN k) := ⟨rfl, rfl, rfl, rfl⟩

set_option maxRecDepth 100000 in
set_option maxHeartbeats 1600000 in
theorem prefix_w (n m : Nat) (va vb_ : Value) (a b : List UInt8) (w : World) (hn : n < 2 ^ 64) (hm : m < 2 ^ 64) (ha : RdB w va a) (hb : RdB w vb_ b) :
    Calls Try.prog 4 #[.int .u64 (n : Int), .int .u64 (m : Int), va, vb_] w fun e w' => e = .returned (.bool true) ∧ Below w.heap.size w w' := by
  have Ha := Lib.hid ha
  have Hb := Lib.hid hb
  obtain ⟨pa, ca, rfl, hpa⟩ := ha
  obtain ⟨pb, cb, rfl, hpb⟩ := hb
  have hla := Ha.out.le
  have hlb := Hb.out.le
  have HB := Lib.hid (Below.refl w.heap.size w)
  by_cases hbig : a.length ≤ 10000 ∧ b.length ≤ 10000
  · obtain ⟨hal, hbl⟩ := hbig
    have hd1 : decide (10000 < (a.length : Int)) = false := by simp; omega
    have hd2 : decide (10000 < (b.length : Int)) = false := by simp; omega
    have hi1 : -9223372036854775808 ≤ IntKind.i64.wrap (n : Int) ∧ IntKind.i64.wrap (n : Int) ≤ 9223372036854775807 := by rw [IntKind.wrap_i64]; omega
    have hi2 : -9223372036854775808 ≤ IntKind.i64.wrap (m : Int) ∧ IntKind.i64.wrap (m : Int) ≤ 9223372036854775807 := by rw [IntKind.wrap_i64]; omega
    have hinj : IntKind.i64.wrap (n : Int) = IntKind.i64.wrap (m : Int) ↔ n = m := by rw [IntKind.wrap_i64, IntKind.wrap_i64]; omega
    obtain ⟨i, hi⟩ : ∃ i, IntKind.i64.wrap (n : Int) = i := ⟨_, rfl⟩
    obtain ⟨j, hj⟩ : ∃ j, IntKind.i64.wrap (m : Int) = j := ⟨_, rfl⟩
    rw [hi] at hi1 hinj
    rw [hj] at hi2 hinj
    obtain ⟨b1, hb1⟩ : ∃ b1, decide (n = m) = b1 := ⟨_, rfl⟩
    have Hx := Lib.hid ((Form.begins_nat n m).trans hb1)
    have Hy := Lib.hid (show Form.begins (Form.nat (Form.fold i)) (Form.nat (Form.fold j)) = b1 by rw [Form.begins_int, ← hb1]; exact decide_eq_decide.2 hinj)
    have Hz := Lib.hid (Form.begins_text a b)
    have e1 : ((n : Int) == (m : Int)) = b1 := by
      rw [← hb1]
      by_cases h : n = m
      · simp [h]
      · rw [decide_eq_false h]; simp; omega
    have e2 : (n == m) = b1 := by rw [← hb1]; rfl
    obtain ⟨b2, hb2⟩ : ∃ b2, decide (a = b) = b2 := ⟨_, rfl⟩
    rw [hb2] at Hz
    have hca := fun (W : World) (hW : Below w.heap.size w W) => run_convert_str (P := Try.prog) (Ha.out.below hW) 24 5 9 Try.underlying24 Try.underlying5 Try.underlying9
    have hcb := fun (W : World) (hW : Below w.heap.size w W) => run_convert_str (P := Try.prog) (Hb.out.below hW) 24 5 9 Try.underlying24 Try.underlying5 Try.underlying9
    have hss := str_beq a b
    rw [hb2] at hss
    generalize (⟨a.toArray⟩ : ByteArray) = sa at *
    generalize (⟨b.toArray⟩ : ByteArray) = sb at *
    have Hca := Lib.hid hca
    have Hcb := Lib.hid hcb
    have Hi1 := Lib.hid hi1
    have Hi2 := Lib.hid hi2
    have Hn64 := Lib.hid hn
    have Hm64 := Lib.hid hm
    clear hca hcb hi1 hi2 hinj hb1 hb2 hn hm hpa hpb
    go_enter Try.func4, Try.ntmps4
    go_wp2_with (first
      | (go_at_call 16; (first
          | (with_reducible refine (nat_w _ (.slice none 0 0) [] n _ (OB.nil _ _ _) Hn64.out (by decide) (Nat.le_refl _)).mono ?_; rintro e w1 ⟨p, k, c, rfl, hk, ho, hB⟩; rw [List.nil_append] at ho; have Rn := Lib.hid ho.rd; clear ho hk; (try (have R' := Lib.hid (Rx.out.below hB); clear Rx; rename _ => Rx)); (try (have R' := Lib.hid (Ry.out.below hB); clear Ry; rename _ => Ry)); (try (have R' := Lib.hid (Ru.out.below hB); clear Ru; rename _ => Ru)); (try (have R' := Lib.hid (Rv.out.below hB); clear Rv; rename _ => Rv)); (try (have R' := Lib.hid (Rs.out.below hB); clear Rs; rename _ => Rs)); have Rx := Rn; clear Rn)
          | (with_reducible refine (nat_w _ (.slice none 0 0) [] m _ (OB.nil _ _ _) Hm64.out (by decide) (Nat.le_refl _)).mono ?_; rintro e w1 ⟨p, k, c, rfl, hk, ho, hB⟩; rw [List.nil_append] at ho; have Rn := Lib.hid ho.rd; clear ho hk; (try (have R' := Lib.hid (Rx.out.below hB); clear Rx; rename _ => Rx)); (try (have R' := Lib.hid (Ry.out.below hB); clear Ry; rename _ => Ry)); (try (have R' := Lib.hid (Ru.out.below hB); clear Ru; rename _ => Ru)); (try (have R' := Lib.hid (Rv.out.below hB); clear Rv; rename _ => Rv)); (try (have R' := Lib.hid (Rs.out.below hB); clear Rs; rename _ => Rs)); have Ry := Rn; clear Rn)); have HB' := Lib.hid (HB.out.trans (hB.mono HB.out.size)); clear hB HB; rename _ => HB)
      | (go_at_call 17; (first
          | (with_reducible refine (int_w _ (.slice none 0 0) [] i _ (OB.nil _ _ _) Hi1.out.1 Hi1.out.2 (by decide) (Nat.le_refl _)).mono ?_; rintro e w1 ⟨p, k, c, rfl, hk, ho, hB⟩; rw [List.nil_append] at ho; have Rn := Lib.hid ho.rd; clear ho hk; (try (have R' := Lib.hid (Rx.out.below hB); clear Rx; rename _ => Rx)); (try (have R' := Lib.hid (Ry.out.below hB); clear Ry; rename _ => Ry)); (try (have R' := Lib.hid (Ru.out.below hB); clear Ru; rename _ => Ru)); (try (have R' := Lib.hid (Rv.out.below hB); clear Rv; rename _ => Rv)); (try (have R' := Lib.hid (Rs.out.below hB); clear Rs; rename _ => Rs)); have Ru := Rn; clear Rn)
          | (with_reducible refine (int_w _ (.slice none 0 0) [] j _ (OB.nil _ _ _) Hi2.out.1 Hi2.out.2 (by decide) (Nat.le_refl _)).mono ?_; rintro e w1 ⟨p, k, c, rfl, hk, ho, hB⟩; rw [List.nil_append] at ho; have Rn := Lib.hid ho.rd; clear ho hk; (try (have R' := Lib.hid (Rx.out.below hB); clear Rx; rename _ => Rx)); (try (have R' := Lib.hid (Ry.out.below hB); clear Ry; rename _ => Ry)); (try (have R' := Lib.hid (Ru.out.below hB); clear Ru; rename _ => Ru)); (try (have R' := Lib.hid (Rv.out.below hB); clear Rv; rename _ => Rv)); (try (have R' := Lib.hid (Rs.out.below hB); clear Rs; rename _ => Rs)); have Rv := Rn; clear Rn)); have HB' := Lib.hid (HB.out.trans (hB.mono HB.out.size)); clear hB HB; rename _ => HB)
      | (go_at_call 20; (first
          | (with_reducible refine (text_w _ (.slice none 0 0) _ [] a _ (OB.nil _ _ _) (Ha.out.below HB.out) (Below.refl _ _) (by decide) (by omega)).mono ?_; rintro e w1 ⟨p, k, c, rfl, hk, ho, hB⟩; rw [List.nil_append] at ho; have Rn := Lib.hid ho.rd; clear ho hk; (try (have R' := Lib.hid (Rx.out.below hB); clear Rx; rename _ => Rx)); (try (have R' := Lib.hid (Ry.out.below hB); clear Ry; rename _ => Ry)); (try (have R' := Lib.hid (Ru.out.below hB); clear Ru; rename _ => Ru)); (try (have R' := Lib.hid (Rv.out.below hB); clear Rv; rename _ => Rv)); (try (have R' := Lib.hid (Rs.out.below hB); clear Rs; rename _ => Rs)); have Rs := Rn; clear Rn)
          | (with_reducible refine (text_w _ (.slice none 0 0) _ [] b _ (OB.nil _ _ _) (Hb.out.below HB.out) (Below.refl _ _) (by decide) (by omega)).mono ?_; rintro e w1 ⟨p, k, c, rfl, hk, ho, hB⟩; rw [List.nil_append] at ho; have Rn := Lib.hid ho.rd; clear ho hk; (try (have R' := Lib.hid (Rx.out.below hB); clear Rx; rename _ => Rx)); (try (have R' := Lib.hid (Ry.out.below hB); clear Ry; rename _ => Ry)); (try (have R' := Lib.hid (Ru.out.below hB); clear Ru; rename _ => Ru)); (try (have R' := Lib.hid (Rv.out.below hB); clear Rv; rename _ => Rv)); (try (have R' := Lib.hid (Rs.out.below hB); clear Rs; rename _ => Rs)); have Rt := Rn; clear Rn)); have HB' := Lib.hid (HB.out.trans (hB.mono HB.out.size)); clear hB HB; rename _ => HB))
    have C1 := fun k => Calls.quiet_of (w := w1) (n := k) (begins_w _ _ (Form.nat n) (Form.nat m) _ (Rx.out.keeps (.of_heap rfl)) (Ry.out.keeps (.of_heap rfl)) (by have := Form.nat_len10 Hn64.out; omega) (by have := Form.nat_len10 Hm64.out; omega))
    have C2 := fun k => Calls.quiet_of (w := w1) (n := k) (begins_w _ _ (Form.nat (Form.fold i)) (Form.nat (Form.fold j)) _ (Ru.out.keeps (.of_heap rfl)) (Rv.out.keeps (.of_heap rfl)) (by have := Form.nat_len10 (Form.fold_lt Hi1.out.1 Hi1.out.2); omega) (by have := Form.nat_len10 (Form.fold_lt Hi2.out.1 Hi2.out.2); omega))
    have C3 := fun k => Calls.quiet_of (w := w1) (n := k) (begins_w _ _ (Form.text a) (Form.text b) _ (Rs.out.keeps (.of_heap rfl)) (Rt.out.keeps (.of_heap rfl)) (by unfold Form.text; rw [List.length_append]; have := Form.nat_len10 (n := a.length) (by omega); omega) (by unfold Form.text; rw [List.length_append]; have := Form.nat_len10 (n := b.length) (by omega); omega))
    rw [Hx.out] at C1
    rw [Hy.out] at C2
    rw [Hz.out] at C3
    have hca := fun k => Hca.out (w1.drewN k) (below_drewN HB.out k)
    have hcb := fun k => Hcb.out (w1.drewN k) (below_drewN HB.out k)
    have D1 := Lib.hid C1
    have D2 := Lib.hid C2
    have D3 := Lib.hid C3
    clear C1 C2 C3
    go_quiet (first | (with_reducible exact D1.out _) | (with_reducible exact D2.out _) | (with_reducible exact D3.out _))
    go_wp2_with (go_at_call 18; go_loud (refine (known_w _).mono ?_; rintro e w2 ⟨rfl, hB⟩; have HB2 := Lib.hid ((below_drewN HB.out nq).trans (hB.mono HB.out.size)); clear hB))
    go_ret
    exact ⟨rfl, HB2.out⟩
  · have hd : (decide (10000 < (a.length : Int)) || decide (10000 < (b.length : Int))) = true := by simp; omega
    by_cases h1 : 10000 < a.length
    · have hd1 : decide (10000 < (a.length : Int)) = true := by simp; omega
      clear hbig hd hpa hpb hn hm
      go_enter Try.func4, Try.ntmps4
      go_wp2_with (go_at_call 18; with_reducible refine (known_w _).mono ?_; rintro e w2 ⟨rfl, hB⟩; have HB2 := Lib.hid hB; clear hB)
      go_ret
      exact ⟨rfl, HB2.out⟩
    · have hd1 : decide (10000 < (a.length : Int)) = false := by simp; omega
      have hd2 : decide (10000 < (b.length : Int)) = true := by simp; omega
      clear hbig hd hpa hpb hn hm
      go_enter Try.func4, Try.ntmps4
      go_wp2_with (go_at_call 18; with_reducible refine (known_w _).mono ?_; rintro e w2 ⟨rfl, hB⟩; have HB2 := Lib.hid hB; clear hB)
      go_ret
      exact ⟨rfl, HB2.out⟩
end Go.Proofs.Ytpbdnndpdidagaa
