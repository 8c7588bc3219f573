/- Behind which bytes a form is laid, and where: the finer frame of wire.Nat and wire.Int. -/
import Derived.Test.YtoflehlkacofjaaQcS4
import Derived.Maps.AppendAt
namespace Go.Proofs.Ytoflehlkacofjaa
open Go.ChangeShapes Go.WideShapes Go.ChangeAt Go.RowKit
set_option linter.unusedVariables false
/-- The new row lies where the old one lay, or in a block that was made since. -/
def Near (w : World) (v v' : Value) : Prop := v'.ownBlock = v.ownBlock ∨ ∃ g, v'.ownBlock = some g ∧ w.heap.size ≤ g
theorem Near.refl (w : World) (v : Value) : Near w v v := .inl rfl
theorem Near.trans {w w1 : World} {v v1 v2 : Value} (h : Near w v v1) (k : Near w1 v1 v2) (hs : w.heap.size ≤ w1.heap.size) : Near w v v2 := by
  rcases k with k | ⟨g, k, hg⟩
  · rcases h with h | ⟨g, h, hg⟩
    · exact .inl (k.trans h)
    · exact .inr ⟨g, k.trans h, hg⟩
  · exact .inr ⟨g, k, Nat.le_trans hs hg⟩
theorem grown_near {w w1 w2 : World} {v v1 : Value} (h : w.grownBy w1 v.ownBlock) (k : w1.grownBy w2 v1.ownBlock) (hn : Near w v v1) : w.grownBy w2 v.ownBlock := by
  refine ⟨k.os.trans h.os, k.tape.trans h.tape, k.output.trans h.output, Nat.le_trans h.size k.size, fun b hb hne => ?_⟩
  rw [k.block b (Nat.lt_of_lt_of_le hb h.size) ?_, h.block b hb hne]
  rcases hn with e | ⟨g, e, hg⟩
  · rw [e]; exact hne
  · rw [e]; intro e2; cases e2; omega

section
variable {P : Program} {ops : Array Oper} {rest : List Oper} {o : Oper} {a : Act} {w : World} {Q : Exit → Act → World → Prop}
/-- append(dst, src...) of bytes, and where the new row lies. -/
theorem wpList_append_bytes_at (hgd : o.guard = none) (s x : Operand) (t : TypeId) (ho : o.op = .call { callee := .builtin .append, args := #[s, x], argTypes := #[t, t] })
    {base : Nat} {e : TypeId} (he : Elem P t e (.int .u8 0) 1 1)
    {v : Value} {l : List UInt8} (hs : a.eval s = v) (hown : OB w base e v l) {xv : Value} {m : List UInt8} (hx : a.eval x = xv) (hsrc : RdB w xv m)
    (hlen : l.length + m.length ≤ 140737488355328) (hbase : base ≤ w.heap.size)
    (h : ∀ p n c w', n = (l ++ m).length → OB w' base e (.slice p n c) (l ++ m) → w.grownBy w' v.ownBlock → Near w v (.slice p n c) → wpList P ops Q rest (a.put o.dst (.slice p n c)) w') : wpList P ops Q (o :: rest) a w := by
  refine wpList_plain hgd fun _ hK => ?_
  have key : ∃ v' w', (Builtin.append_ #[t, t] o.type #[v, xv]).run P w = .ok v' w' ∧ w'.ownsRow base e 1 v' (l.length + m.length) (l.map vb ++ m.map vb) ∧ w.grownBy w' v.ownBlock ∧ Near w v v' := by
    obtain ⟨i, hi, hz, hsz, hb⟩ := info_parts he.info
    obtain ⟨p, c, rfl, hl, h1, hp⟩ := hsrc.src
    rcases hp with ⟨rfl, hm0, rfl⟩ | ⟨ad, rfl, hnews⟩
    · have hm : m = [] := List.eq_nil_of_length_eq_zero hm0
      subst hm
      exact ⟨v, w, run_append_owned_none w base t o.type e i 1 he.sl hi v _ _ hown, by have h := hown; unfold OB at h; simpa using h, World.grownBy.refl _ _, Near.refl _ _⟩
    · obtain ⟨v', w', h2, h3, h4, _, h5⟩ := run_append_own_at (P := P) w base t o.type e i _ 1 1 he.sl hi hz hsz hb he.zs he.pos v _ _ hown ad m.length c (m.map vb) hl hnews h1 (by unfold maxLen; omega) (by omega) hbase
      exact ⟨v', w', h2, h3, h4, h5.imp id fun h => ⟨_, h, Nat.le_refl _⟩⟩
  obtain ⟨v', w', hr, h2, h3, h4⟩ := key
  have h5 : OB w' base e v' (l ++ m) := by unfold OB; rw [List.map_append, List.length_append]; exact h2
  obtain ⟨p, c, rfl⟩ := h5.form
  unfold Oper.wp execOp
  simp only [ho, resolve, invoke, builtin, Sem.run_bind, Sem.run_pure, Result.andThen_ok, List.map_toArray, List.map_cons, List.map_nil, hs, hx, hr]
  exact hK _ _ (h p _ c w' rfl h5 h3 h4)
end
theorem grown_of_alloc {w w' : World} {o : Obj} {row : Option Nat} (h : (w.alloc o).grownBy w' row) : w.grownBy w' row :=
  ⟨h.os, h.tape, h.output, Nat.le_trans (by simp) h.size, fun b hb hne => by rw [h.block b (by simp; omega) hne]; exact Below.heap_alloc w o b hb⟩
theorem near_of_alloc {w : World} {o : Obj} {v v' : Value} (h : Near (w.alloc o) v v') : Near w v v' := h.imp id fun ⟨g, e, hg⟩ => ⟨g, e, by simp at hg; omega⟩

set_option maxRecDepth 100000 in
set_option maxHeartbeats 800000 in
theorem nat2_w (base : Nat) (v : Value) (l : List UInt8) (n : Nat) (w : World) (ho : OB w base 5 v l) (hn : n < 2 ^ 64) (hl : l.length ≤ 1000000) (hb : base ≤ w.heap.size) :
    Calls Try.prog 25 #[v, .int .u64 (n : Int)] w fun e w' => ∃ p k c, e = .returned (.slice p k c) ∧ k = (l ++ Form.nat n).length ∧ OB w' base 5 (.slice p k c) (l ++ Form.nat n) ∧ w.grownBy w' v.ownBlock ∧ Near w v (.slice p k c) := by
  obtain ⟨p0, c0, rfl⟩ := ho.form
  have Ho := Lib.hid ho
  have h10 := Form.nat_len10 hn
  have H10 := Lib.hid h10
  clear ho h10
  go_enter Try.func25, Try.ntmps25
  go_wp2
  go_loopw [0, 1] (fun b x wr => ∃ (m : Nat) (p : Option Addr) (k c : Nat) (o : List UInt8), m < 18446744073709551616 ∧ x = .int .u64 (m : Int) ∧ b = .slice p k c ∧ k = o.length ∧ o ++ Form.nat m = l ++ Form.nat n ∧ OB wr base 5 (.slice p k c) o ∧ w.grownBy wr (Value.slice p0 l.length c0).ownBlock ∧ Near w (.slice p0 l.length c0) (.slice p k c)) (fun _ x _ => (intOf x).toNat)
  case atStart => exact ⟨n, p0, _, c0, l, by omega, rfl, rfl, rfl, rfl, Ho.out, World.grownBy.refl _ _, Near.refl _ _⟩
  case round =>
    obtain ⟨m, p, k, c, o, hm, rfl, rfl, hk, he, ho, hB, hN⟩ := hrel
    have He := Lib.hid he
    have Hk := Lib.hid hk
    have HB := Lib.hid hB
    have HO := Lib.hid ho
    have HN := Lib.hid hN
    have hlen : o.length + 1 ≤ 1000011 := by have := congrArg List.length he; rw [List.length_append, List.length_append] at this; have := Form.nat_pos m; have := H10.out; omega
    have hbw : base ≤ wr.heap.size := by have := hB.size; omega
    clear he hk hB ho hN
    obtain ⟨y8, hy8⟩ : ∃ y, y = m % 256 := ⟨_, rfl⟩
    have hw8 := wrap_u8_nat m
    rw [← hy8] at hw8
    by_cases hbig : 128 ≤ m
    · obtain ⟨x8, hx8⟩ : ∃ x, x = m % 128 + 128 := ⟨_, rfl⟩
      have hor := or128_u8 y8 (by omega)
      rw [show y8 % 128 + 128 = x8 by omega] at hor
      obtain ⟨m7, hm7⟩ : ∃ x, x = m / 128 := ⟨_, rfl⟩
      have Hm7 := Lib.hid hm7
      have Hone := Lib.hid (RdB_one wr 5 x8 (by omega))
      have HO1 := Lib.hid (HO.out.alloc (.cells #[.int .u8 (x8 : Int)] 5))
      have Hxm := Lib.hid (show x8 = m % 128 + 128 from hx8)
      clear hx8 hy8 hm7
      go_wp2_with (refine wpList_append_bytes_at rfl (.tmp 7) (.tmp 11) 39 rfl hel rfl HO1.out rfl Hone.out (by simp; omega) (by simp; omega) ?_; intro p1 n1 c1 w1 hn1 ho1 hg1 hnr1; have Hn1 := Lib.hid hn1; have Ho1 := Lib.hid ho1; have Hg1 := Lib.hid (grown_near HB.out (grown_of_alloc hg1) HN.out); have Hnr := Lib.hid (HN.out.trans (near_of_alloc hnr1) HB.out.size); clear hn1 ho1 hg1 hnr1)
      go_roundw
      case rel =>
        refine ⟨m7, p1, n1, c1, _, by have := Hm7.out; omega, by have := Hm7.out; congr 1; omega, rfl, Hn1.out, ?_, Ho1.out, Hg1.out, Hnr.out⟩
        rw [← He.out, Form.nat_big (n := m) (by omega), List.append_assoc, Hm7.out, Hxm.out]; rfl
      case measure => have := Hm7.out; simp [intOf]; omega
    · have Hone := Lib.hid (RdB_one wr 5 y8 (by omega))
      have HO1 := Lib.hid (HO.out.alloc (.cells #[.int .u8 (y8 : Int)] 5))
      have he := He.out
      rw [Form.nat_small (n := m) (by omega), show m = y8 by omega] at he
      have He2 := Lib.hid he
      clear he hy8
      go_wp2_with (refine wpList_append_bytes_at rfl (.tmp 15) (.tmp 18) 39 rfl hel rfl HO1.out rfl Hone.out (by simp; omega) (by simp; omega) ?_; intro p1 n1 c1 w1 hn1 ho1 hg1 hnr1; have Hn1 := Lib.hid hn1; have Ho1 := Lib.hid ho1; have Hg1 := Lib.hid (grown_near HB.out (grown_of_alloc hg1) HN.out); have Hnr := Lib.hid (HN.out.trans (near_of_alloc hnr1) HB.out.size); clear hn1 ho1 hg1 hnr1)
      go_ret
      refine ⟨p1, n1, c1, rfl, ?_, ?_, Hg1.out, Hnr.out⟩
      · rw [← He2.out]; exact Hn1.out
      · rw [← He2.out]; exact Ho1.out

set_option maxRecDepth 100000 in
theorem int2_w (base : Nat) (v : Value) (l : List UInt8) (i : Int) (w : World) (ho : OB w base 5 v l) (h1 : -9223372036854775808 ≤ i) (h2 : i ≤ 9223372036854775807) (hl : l.length ≤ 1000000) (hb : base ≤ w.heap.size) :
    Calls Try.prog 28 #[v, .int .i64 i] w fun e w' => ∃ p k c, e = .returned (.slice p k c) ∧ k = (l ++ Form.nat (Form.fold i)).length ∧ OB w' base 5 (.slice p k c) (l ++ Form.nat (Form.fold i)) ∧ w.grownBy w' v.ownBlock ∧ Near w v (.slice p k c) := by
  have H1 := Lib.hid (folded_w i w h1 h2)
  have H2 := Lib.hid (nat2_w base v l (Form.fold i) w ho (Form.fold_lt h1 h2) hl hb)
  obtain ⟨p0, c0, rfl⟩ := ho.form
  clear ho
  go_enter Try.func28, Try.ntmps28
  go_wp2_with (first
    | (go_at_call 71; refine (H1.out).mono ?_; rintro e w1 ⟨rfl, rfl⟩)
    | (go_at_call 25; refine (H2.out).mono ?_; rintro e w1 ⟨p, k, c, rfl, hk, ho, hB⟩; have Hfin := Lib.hid (And.intro hk (And.intro ho hB)); clear hk ho hB))
  go_ret
  exact ⟨_, _, _, rfl, Hfin.out⟩
end Go.Proofs.Ytoflehlkacofjaa
