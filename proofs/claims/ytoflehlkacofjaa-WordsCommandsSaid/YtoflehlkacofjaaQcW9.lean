/- Walks of the document's forms (numbers, whole numbers, flags, texts), of wire.Flag and of the law's own. -/
import Derived.Test.YtoflehlkacofjaaQcW8
namespace Go.Proofs.Ytoflehlkacofjaa
open Go.ChangeShapes Go.WideShapes Go.ChangeAt Go.RowKit
set_option linter.unusedVariables false
theorem ob_one (w : World) (x : Nat) (hx : x < 256) (base : Nat) (hb : base ≤ w.heap.size) : OB (w.alloc (.cells #[.int .u8 (x : Int)] 5)) base 5 (.slice (some ⟨w.heap.size, 0, none⟩) 1 1) [UInt8.ofNat x] := by
  have h := World.ownsRow_lit (e := 5) (size := 1) w #[.int .u8 (x : Int)] 1 hb (by unfold maxLen; omega) rfl
  unfold OB
  have e : [UInt8.ofNat x].map vb = #[Value.int .u8 (x : Int)].toList := by
    simp only [List.map_cons, List.map_nil, vb, Form.byte_lt _ hx]
  rw [e]
  exact h

set_option maxRecDepth 100000 in
theorem refnat_w : ∀ (n : Nat) (w : World), n < 2 ^ 64 →
    Calls Try.prog 51 #[.int .u64 (n : Int)] w fun e w' => ∃ p k c, e = .returned (.slice p k c) ∧ OB w' w.heap.size 5 (.slice p k c) (Form.nat n) ∧ k = (Form.nat n).length ∧ Below w.heap.size w w' := by
  intro n
  induction n using Nat.strongRecOn with
  | _ n ih =>
    intro w hn
    by_cases h : n < 128
    · have hw8 : IntKind.u8.wrap (n : Int) = (n : Int) := IntWalk.u8_in _ (by omega)
      have Hfin := Lib.hid (ob_one w n (by omega) w.heap.size (Nat.le_refl _))
      have He := Lib.hid (Form.nat_small h)
      clear ih
      go_enter Try.func51, Try.ntmps51
      go_wp2
      go_ret
      refine ⟨_, _, _, rfl, ?_, ?_, (Below.refl _ _).alloc (Nat.le_refl _) _⟩
      · rw [He.out]; exact Hfin.out
      · rw [He.out]; rfl
    · obtain ⟨q, hq⟩ : ∃ q, q = n / 128 := ⟨_, rfl⟩
      obtain ⟨r, hr⟩ : ∃ r, r = n % 128 := ⟨_, rfl⟩
      have e1 : (n : Int) / 128 = (q : Int) := by omega
      have e4 : (n : Int) % 128 + 128 = ((r + 128 : Nat) : Int) := by omega
      have he := Form.nat_big h
      rw [← hq, ← hr] at he
      have hc := (ih q (by omega) (w.alloc (.cells #[.int .u8 ((r + 128 : Nat) : Int)] 5)) (by omega))
      have h1 := (ob_one w (r + 128) (by omega) w.heap.size (Nat.le_refl _))
      have h10 := Form.nat_len10 (n := q) (by omega)
      have H10 := Lib.hid h10
      obtain ⟨r8, hr8⟩ : ∃ r8, r8 = r + 128 := ⟨_, rfl⟩
      rw [← hr8] at e4 he hc h1
      have He := Lib.hid he
      have Hc := Lib.hid hc
      have H1 := Lib.hid h1
      clear ih h10 hq hr hr8 he hc h1
      go_enter Try.func51, Try.ntmps51
      go_wp2_with (first
        | (go_at_call 51; with_reducible refine (Hc.out).mono ?_; rintro e w1 ⟨p, k, c, rfl, ho, hk, hB⟩; have Hr := Lib.hid ho.rd; have HA := Lib.hid (H1.out.below hB); have HB := Lib.hid (((Below.refl w.heap.size w).alloc (Nat.le_refl _) _).trans (hB.mono (by simp))); clear ho hk hB)
        | (refine wpList_append_bytes rfl (.tmp 12) (.tmp 15) 39 rfl hel rfl HA.out rfl Hr.out (by have := H10.out; simp; omega) HB.out.size ?_; intro p1 n1 c1 w2 hn1 ho1 hg1; have Hn1 := Lib.hid hn1; have Ho1 := Lib.hid ho1; have HB1 := Lib.hid (HB.out.trans (below_own HA.out hg1 HB.out.size)); clear hn1 ho1 hg1))
      go_ret
      refine ⟨_, _, _, rfl, ?_, ?_, HB1.out⟩
      · rw [He.out]; exact Ho1.out
      · rw [He.out]; exact Hn1.out

set_option maxRecDepth 100000 in
theorem refint_w (i : Int) (w : World) (h1 : -9223372036854775808 ≤ i) (h2 : i ≤ 9223372036854775807) :
    Calls Try.prog 52 #[.int .i64 i] w fun e w' => ∃ p k c, e = .returned (.slice p k c) ∧ OB w' w.heap.size 5 (.slice p k c) (Form.nat (Form.fold i)) ∧ k = (Form.nat (Form.fold i)).length ∧ Below w.heap.size w w' := by
  have Hc := Lib.hid (refnat_w (Form.fold i) w (Form.fold_lt h1 h2))
  obtain ⟨n, hn⟩ : ∃ n, Form.fold i = n := ⟨_, rfl⟩
  rw [hn] at Hc ⊢
  by_cases h0 : 0 ≤ i
  · have e1 : IntKind.u64.wrap i = i := IntWalk.u64_in _ (by omega)
    have e2 : 2 * i = (n : Int) := by rw [← hn]; unfold Form.fold; rw [if_pos h0]; omega
    have e3 : IntKind.u64.wrap (2 * i) = (n : Int) := by rw [IntWalk.u64_in _ (by omega)]; exact e2
    clear hn
    go_enter Try.func52, Try.ntmps52
    go_wp2_with (go_at_call 51; with_reducible refine (Hc.out).mono ?_; rintro e w1 ⟨p, k, c, rfl, ho⟩; have Ho := Lib.hid ho; clear ho)
    go_ret
    exact ⟨_, _, _, rfl, Ho.out⟩
  · have e1 : IntKind.u64.wrap (-(i + 1)) = -(i + 1) := IntWalk.u64_in _ (by omega)
    have e2 : 2 * (-(i + 1)) + 1 = (n : Int) := by rw [← hn]; unfold Form.fold; rw [if_neg h0]; omega
    clear hn
    go_enter Try.func52, Try.ntmps52
    go_wp2_with (go_at_call 51; with_reducible refine (Hc.out).mono ?_; rintro e w1 ⟨p, k, c, rfl, ho⟩; have Ho := Lib.hid ho; clear ho)
    go_ret
    exact ⟨_, _, _, rfl, Ho.out⟩

def Form.flag (f : Bool) : List UInt8 := [if f then 1 else 0]
set_option maxRecDepth 100000 in
theorem refflag_w (f : Bool) (w : World) :
    Calls Try.prog 64 #[.bool f] w fun e w' => ∃ p k c, e = .returned (.slice p k c) ∧ OB w' w.heap.size 5 (.slice p k c) (Form.flag f) ∧ k = (Form.flag f).length ∧ Below w.heap.size w w' := by
  have H1 := Lib.hid (ob_one w 1 (by decide) w.heap.size (Nat.le_refl _))
  have H0 := Lib.hid (ob_one w 0 (by decide) w.heap.size (Nat.le_refl _))
  cases f
  · go_enter Try.func64, Try.ntmps64
    go_wp2
    go_ret
    exact ⟨_, _, _, rfl, H0.out, rfl, (Below.refl _ _).alloc (Nat.le_refl _) _⟩
  · go_enter Try.func64, Try.ntmps64
    go_wp2
    go_ret
    exact ⟨_, _, _, rfl, H1.out, rfl, (Below.refl _ _).alloc (Nat.le_refl _) _⟩

end Go.Proofs.Ytoflehlkacofjaa
