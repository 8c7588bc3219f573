/- Walk of wire.Nat. -/
import Derived.Test.YtoflehlkacofjaaQcForm2
import Derived.Test.YtoflehlkacofjaaQcL1
import Derived.Test.YtoflehlkacofjaaRows
import Derived.Below
import Derived.Lib.Hide
import Derived.OpenShut
import Derived.ProofKit
import Derived.WalkKit
namespace Go.Proofs.Ytoflehlkacofjaa
open Go.ChangeShapes Go.WideShapes Go.ChangeAt Go.RowKit
set_option linter.unusedVariables false
theorem hel : Elem Try.prog 39 5 (.int .u8 0) 1 1 := ⟨Try.underlying39, by kernel_rfl, rfl, by decide⟩

theorem or128_u8 (a : Nat) (ha : a < 256) : bits .or .u8 (a : Int) 128 = ((a % 128 + 128 : Nat) : Int) := by
  have e : bits .or .u8 (a : Int) 128 = IntKind.u8.wrap (((BitVec.ofInt 8 a ||| BitVec.ofInt 8 ((128 : Nat) : Int) : BitVec 8).toNat : Nat) : Int) := rfl
  rw [e, BitVec.toNat_or, BitVec.ofInt_natCast, BitVec.ofInt_natCast, BitVec.toNat_ofNat, BitVec.toNat_ofNat, Nat.mod_eq_of_lt ha, Nat.mod_eq_of_lt (by decide)]
  have h : ∀ m, m < 256 → (m ||| 128) = m % 128 + 128 := by decide +kernel
  rw [h _ (by omega), IntKind.wrap_u8]; omega
theorem wrap_u8_nat (m : Nat) : IntKind.u8.wrap (m : Int) = ((m % 256 : Nat) : Int) := by rw [IntKind.wrap_u8]; omega

theorem RdB_one (w : World) (e : TypeId) (x : Nat) (hx : x < 256) : RdB (w.alloc (.cells #[.int .u8 (x : Int)] e)) (.slice (some ⟨w.heap.size, 0, none⟩) 1 1) [UInt8.ofNat x] := by
  refine RdB_of_block (heap_alloc_new w _) rfl (by decide) (by decide) fun i hi => ?_
  match i, hi with
  | 0, _ => show some (Value.int .u8 (x : Int)) = some (.int .u8 (((UInt8.ofNat x).toNat : Nat) : Int)); rw [Form.byte_lt _ hx]
theorem OB.alloc {w : World} {base : Nat} {e : TypeId} {v : Value} {l : List UInt8} (h : OB w base e v l) (o : Obj) : OB (w.alloc o) base e v l := h.keeps ((Keeps.refl w).alloc o)

set_option maxRecDepth 100000 in
set_option maxHeartbeats 800000 in
theorem nat_w (base : Nat) (v : Value) (l : List UInt8) (n : Nat) (w : World) (ho : OB w base 5 v l) (hn : n < 2 ^ 64) (hl : l.length ≤ 1000000) (hb : base ≤ w.heap.size) :
    Calls Try.prog 25 #[v, .int .u64 (n : Int)] w fun e w' => ∃ p k c, e = .returned (.slice p k c) ∧ k = (l ++ Form.nat n).length ∧ OB w' base 5 (.slice p k c) (l ++ Form.nat n) ∧ Below base w w' := by
  obtain ⟨p0, c0, rfl⟩ := ho.form
  have Ho := Lib.hid ho
  have h10 := Form.nat_len10 hn
  have H10 := Lib.hid h10
  clear ho h10
  go_enter Try.func25, Try.ntmps25
  go_wp2
  go_loopw [0, 1] (fun b x wr => ∃ (m : Nat) (p : Option Addr) (k c : Nat) (o : List UInt8), m < 18446744073709551616 ∧ x = .int .u64 (m : Int) ∧ b = .slice p k c ∧ k = o.length ∧ o ++ Form.nat m = l ++ Form.nat n ∧ OB wr base 5 (.slice p k c) o ∧ Below base w wr) (fun _ x _ => (intOf x).toNat)
  case atStart => exact ⟨n, p0, _, c0, l, by omega, rfl, rfl, rfl, rfl, Ho.out, Below.refl _ _⟩
  case round =>
    obtain ⟨m, p, k, c, o, hm, rfl, rfl, hk, he, ho, hB⟩ := hrel
    have He := Lib.hid he
    have Hk := Lib.hid hk
    have HB := Lib.hid hB
    have HO := Lib.hid ho
    have hlen : o.length + 1 ≤ 1000011 := by have := congrArg List.length he; rw [List.length_append, List.length_append] at this; have := Form.nat_pos m; have := H10.out; omega
    have hbw : base ≤ wr.heap.size := by have := hB.size; omega
    clear he hk hB ho
    obtain ⟨y8, hy8⟩ : ∃ y, y = m % 256 := ⟨_, rfl⟩
    have hw8 := wrap_u8_nat m
    rw [← hy8] at hw8
    by_cases hbig : 128 ≤ m
    · obtain ⟨x8, hx8⟩ : ∃ x, x = m % 128 + 128 := ⟨_, rfl⟩
      have hor := or128_u8 y8 (by omega)
      rw [show y8 % 128 + 128 = x8 by omega] at hor
      obtain ⟨m7, hm7⟩ : ∃ x, x = m / 128 := ⟨_, rfl⟩
      have Hm7 := Lib.hid hm7
      have Hone := Lib.hid (RdB_one wr 5 x8 (by omega))
      have HO1 := Lib.hid (HO.out.alloc (.cells #[.int .u8 (x8 : Int)] 5))
      have Hxm := Lib.hid (show x8 = m % 128 + 128 from hx8)
      clear hx8 hy8 hm7
      go_wp2_with (refine wpList_append_bytes rfl (.tmp 7) (.tmp 11) 39 rfl hel rfl HO1.out rfl Hone.out (by simp; omega) (by simp; omega) ?_; intro p1 n1 c1 w1 hn1 ho1 hg1; have Hn1 := Lib.hid hn1; have Ho1 := Lib.hid ho1; have Hg1 := Lib.hid (HB.out.trans ((Below.refl base wr).alloc (by omega) _ |>.trans (below_own HO1.out hg1 (by simp; omega)))); clear hn1 ho1 hg1)
      go_roundw
      case rel =>
        refine ⟨m7, p1, n1, c1, _, by have := Hm7.out; omega, by have := Hm7.out; congr 1; omega, rfl, Hn1.out, ?_, Ho1.out, Hg1.out⟩
        rw [← He.out, Form.nat_big (n := m) (by omega), List.append_assoc, Hm7.out, Hxm.out]; rfl
      case measure => have := Hm7.out; simp [intOf]; omega
    · have Hone := Lib.hid (RdB_one wr 5 y8 (by omega))
      have HO1 := Lib.hid (HO.out.alloc (.cells #[.int .u8 (y8 : Int)] 5))
      have he := He.out
      rw [Form.nat_small (n := m) (by omega), show m = y8 by omega] at he
      have He2 := Lib.hid he
      clear he hy8
      go_wp2_with (refine wpList_append_bytes rfl (.tmp 15) (.tmp 18) 39 rfl hel rfl HO1.out rfl Hone.out (by simp; omega) (by simp; omega) ?_; intro p1 n1 c1 w1 hn1 ho1 hg1; have Hn1 := Lib.hid hn1; have Ho1 := Lib.hid ho1; have Hg1 := Lib.hid (HB.out.trans ((Below.refl base wr).alloc (by omega) _ |>.trans (below_own HO1.out hg1 (by simp; omega)))); clear hn1 ho1 hg1)
      go_ret
      refine ⟨p1, n1, c1, rfl, ?_, ?_, Hg1.out⟩
      · rw [← He2.out]; exact Hn1.out
      · rw [← He2.out]; exact Ho1.out
end Go.Proofs.Ytoflehlkacofjaa
