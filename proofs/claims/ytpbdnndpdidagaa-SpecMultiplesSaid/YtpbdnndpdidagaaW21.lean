/- Walk of the law WireBack. -/
import Derived.Test.YtpbdnndpdidagaaW20
import Derived.Test.YtpbdnndpdidagaaRows4
import Derived.Lib.SmallJoins
import Derived.Deep.RegionWith
namespace Go.Proofs.Ytpbdnndpdidagaa
open Go.ChangeShapes Go.WideShapes Go.ChangeAt Go.RowKit Go.Deep
set_option linter.unusedVariables false

namespace Form
abbrev Part := Int × Int × List UInt8
def u64 (n : Int) : Nat := (n % 18446744073709551616).toNat
theorem u64_wrap (n : Int) : IntKind.u64.wrap n = (u64 n : Int) := by rw [IntKind.wrap_u64]; unfold u64; omega
theorem u64_lt (n : Int) : u64 n < 2 ^ 64 := by unfold u64; omega
def pform (x : Part) : List UInt8 := if x.1 = 1 then nat (u64 x.2.1) else if x.1 = 2 then nat (fold x.2.1) else if x.1 = 3 then flag (decide (x.2.1 % 2 = 1)) else text x.2.2
def pforms (l : List Part) : List UInt8 := l.flatMap pform
def psum (l : List Part) : Nat := (l.map fun x => x.2.2.length).sum
theorem pforms_succ (l : List Part) (k : Nat) (h : k < l.length) : pforms (l.take (k + 1)) = pforms (l.take k) ++ pform (l.getD k default) := by
  rw [List.take_succ_eq_append_getElem h, getD_of_lt _ _ _ h]; unfold pforms; rw [List.flatMap_append]; simp only [List.flatMap_cons, List.flatMap_nil, List.append_nil]
theorem psum_succ (l : List Part) (k : Nat) (h : k < l.length) : psum (l.take (k + 1)) = psum (l.take k) + (l.getD k default).2.2.length := by
  rw [List.take_succ_eq_append_getElem h, getD_of_lt _ _ _ h]; unfold psum; rw [List.map_append, List.sum_append]; simp only [List.map_cons, List.map_nil, List.sum_cons, List.sum_nil, Nat.add_zero]
theorem pform_le (x : Part) (h : -9223372036854775808 ≤ x.2.1 ∧ x.2.1 ≤ 9223372036854775807) (ht : x.2.2.length < 2 ^ 64) : (pform x).length ≤ 10 + x.2.2.length := by
  unfold pform
  split
  · have := nat_len10 (u64_lt x.2.1); omega
  · split
    · have := nat_len10 (fold_lt h.1 h.2); omega
    · split
      · simp [flag]; omega
      · unfold text; rw [List.length_append]; have := nat_len10 ht; omega
theorem pforms_le : ∀ (l : List Part), (∀ x ∈ l, (-9223372036854775808 ≤ x.2.1 ∧ x.2.1 ≤ 9223372036854775807) ∧ x.2.2.length < 2 ^ 64) → (pforms l).length ≤ 10 * l.length + psum l := by
  intro l
  induction l with
  | nil => intro _; simp [pforms]
  | cons x t ih =>
    intro h
    have h1 := ih (fun y hy => h y (by simp [hy]))
    have h2 := pform_le x (h x (by simp)).1 (h x (by simp)).2
    unfold pforms psum at *
    simp only [List.flatMap_cons, List.length_append, List.length_cons, List.map_cons, List.sum_cons]
    omega
theorem pforms_split (l : List Part) (k : Nat) (h : k < l.length) : (pforms l).drop (pforms (l.take k)).length = pform (l.getD k default) ++ pforms (l.drop (k + 1)) := by
  have e : l = l.take k ++ (l.getD k default :: l.drop (k + 1)) := by
    rw [getD_of_lt _ _ _ h, ← List.drop_eq_getElem_cons h, List.take_append_drop]
  have e2 : pforms l = pforms (l.take k) ++ (pform (l.getD k default) ++ pforms (l.drop (k + 1))) := by
    conv => lhs; rw [e]
    simp [pforms]
  rw [e2, List.drop_left]
theorem pforms_take_le (l : List Part) (k : Nat) : (pforms (l.take k)).length ≤ (pforms l).length := by
  have h : pforms l = pforms (l.take k) ++ pforms (l.drop k) := by
    conv => lhs; rw [← List.take_append_drop k l]
    unfold pforms; rw [List.flatMap_append]
  rw [h, List.length_append]; omega
theorem psum_le (l : List Part) (k : Nat) (h : k < l.length) : (l.getD k default).2.2.length ≤ psum l := by
  have h1 := psum_succ l k h
  have h2 : psum l = psum (l.take (k + 1)) + psum (l.drop (k + 1)) := by
    conv => lhs; rw [← List.take_append_drop (k + 1) l]
    unfold psum; rw [List.map_append, List.sum_append]
  omega
theorem rd_back (F rest : List UInt8) (n a : Nat) (hn : n < 2 ^ 64) (h : F.drop a = nat n ++ rest) : rd 0 0 (F.drop a) = (n, (nat n).length, 0) := by
  rw [h, rd_nat n 0 0 rest (by rw [Nat.pow_zero, Nat.mul_one]; exact hn) (fun h => absurd h (Nat.lt_irrefl _))]
  simp
theorem small_back (F rest : List UInt8) (n a : Nat) (hn : n < 2 ^ 64) (h : F.drop a = nat n ++ rest) : small F a 0 18446744073709551615 = (n, a + (nat n).length, 0) := by
  unfold small
  rw [if_neg (by simp), rd_back F rest n a hn h]
  simp only [if_true]
  rw [if_neg (by omega)]
theorem flg_back (F rest : List UInt8) (f : Bool) (a : Nat) (h : F.drop a = flag f ++ rest) : flg F a 0 = (f, a + 1, 0) := by
  have h1 : F[a]? = some (if f then 1 else 0) := by
    have := congrArg (fun l => l[0]?) h
    simpa [flag] using this
  unfold flg
  rw [if_neg (by simp), h1]
  cases f <;> simp
theorem txt_back (F rest t : List UInt8) (a : Nat) (m : Int) (ht : t.length < 2 ^ 64) (hm : t.length ≤ m.toNat) (h : F.drop a = text t ++ rest) : txt F a 0 m = (t, a + (text t).length, 0) := by
  unfold text at h
  rw [List.append_assoc] at h
  unfold txt
  rw [if_neg (by simp), rd_back F (t ++ rest) t.length a ht h]
  simp only [ne_eq, not_true_eq_false, if_false]
  have h2 : F.drop (a + (nat t.length).length) = t ++ rest := by rw [← List.drop_drop, h, List.drop_left]
  have h3 : F.length - (a + (nat t.length).length) = t.length + rest.length := by rw [← List.length_drop, h2, List.length_append]
  rw [if_neg (by omega), if_neg (by omega), h2, List.take_left]
  unfold text
  rw [List.length_append, Nat.add_assoc]
end Form

theorem and1_i64 (n : Int) (h1 : -9223372036854775808 ≤ n) (h2 : n ≤ 9223372036854775807) : bits .and .i64 n 1 = n % 2 := by
  have e : bits .and .i64 n 1 = IntKind.i64.wrap (((BitVec.ofInt 64 n &&& BitVec.ofInt 64 ((1 : Nat) : Int) : BitVec 64).toNat : Nat) : Int) := rfl
  have h3 : (BitVec.ofInt 64 n).toNat = (n % 18446744073709551616).toNat := by rw [BitVec.toNat_ofInt]; rfl
  rw [e, BitVec.toNat_and, h3, BitVec.ofInt_natCast, BitVec.toNat_ofNat, Nat.mod_eq_of_lt (show 1 < 2 ^ 64 by decide), Nat.and_one_is_mod]
  rw [IntKind.wrap_i64]; omega

/-- The value reads as these parts. -/
def RdPart (w : World) (v : Value) (ls : List Form.Part) : Prop := ∃ p cap, v = .slice p ls.length cap ∧ ls.length ≤ 9223372036854775807 ∧
  (∀ x ∈ ls, (-9223372036854775808 ≤ x.2.1 ∧ x.2.1 ≤ 9223372036854775807) ∧ x.2.2.length ≤ 140737488351232) ∧
  (ls ≠ [] → ∃ b off, p = some ⟨b, off, none⟩ ∧ b < w.heap.size ∧ ∀ i, i < ls.length → w.cell? ⟨b, off + i * 3, none⟩ = some (.int .i64 (ls.getD i default).1) ∧ w.cell? ⟨b, off + i * 3 + 1, none⟩ = some (.int .i64 (ls.getD i default).2.1) ∧
    ∃ tv, w.cell? ⟨b, off + i * 3 + 2, none⟩ = some tv ∧ RdB w tv (ls.getD i default).2.2)

theorem RdPart_of_trod {H : Type} {enc : TypeId × Value → H} {w : World} {base : Nat} {d : DataW H} {p : List MemPlace} {a : Option Addr} {len cap : Nat}
    (hs : Fits Try.prog 59 d) (h : DataW.Trod enc Try.prog w base (fun _ => true) true 59 (.slice a len cap) d p) : ∃ ls, RdPart w (.slice a len cap) ls := by
  obtain ⟨h1, h2, h3, h4⟩ := open_structs_fit (C := 3) Try.underlying59 Try.underlying61 (by kernel_rfl) ⟨_, Array.mem_of_getElem? (i := 0) rfl, rfl, by kernel_rfl⟩ (by decide) hs h
  have hmx : len ≤ 9223372036854775807 := by unfold maxLen at h2; omega
  rcases Nat.eq_zero_or_pos len with hz | hpos
  · subst hz
    exact ⟨[], a, cap, rfl, by decide, (fun x hx => by cases hx), fun hne => absurd rfl hne⟩
  · obtain ⟨b, off, rfl, hb, hc⟩ := h4 hpos
    obtain ⟨ls, hl, hp⟩ := list_of_fn len (fun i (x : Form.Part) => (w.cell? ⟨b, off + i * 3, none⟩ = some (.int .i64 x.1) ∧ w.cell? ⟨b, off + i * 3 + 1, none⟩ = some (.int .i64 x.2.1) ∧ ∃ tv, w.cell? ⟨b, off + i * 3 + 2, none⟩ = some tv ∧ RdB w tv x.2.2) ∧ (-9223372036854775808 ≤ x.2.1 ∧ x.2.1 ≤ 9223372036854775807) ∧ x.2.2.length ≤ 140737488351232) (fun i hi => by
      obtain ⟨u0, y0, n0, c0, t0, _⟩ := hc i hi _ (Array.mem_of_getElem? (i := 0) rfl) (by kernel_rfl) (by decide)
      obtain ⟨u1, y1, n1, c1, t1, _⟩ := hc i hi _ (Array.mem_of_getElem? (i := 1) rfl) (by kernel_rfl) (by decide)
      obtain ⟨u2, y2, n2, c2, t2, f2⟩ := hc i hi _ (Array.mem_of_getElem? (i := 2) rfl) (by kernel_rfl) (by decide)
      obtain ⟨z0, e0, _, w0⟩ := DataW.trod_int Try.underlying3 t0
      obtain ⟨z1, e1, _, w1⟩ := DataW.trod_int Try.underlying2 t1
      obtain ⟨t, ht, htl⟩ : ∃ t, RdB w u2 t ∧ t.length ≤ 140737488351232 := by
        obtain ⟨a2, l2, c3, e2⟩ := Go.Joins.slice_form Try.underlying24 t2
        simp only [List.cons.injEq, and_true] at e2
        subst e2
        have h24 : DataW.Trod enc Try.prog w base (fun _ => true) true 24 (.slice a2 l2 c3) y2.1 y2.2 := ⟨n2, t2⟩
        obtain ⟨t, htl, ht⟩ := RdB_of_trod Try.underlying24 Try.underlying5 (by kernel_rfl) h24
        exact ⟨t, ht, by rw [htl]; exact bytes_fit Try.underlying24 (by kernel_rfl) f2 h24⟩
      simp only [List.cons.injEq, and_true] at e0 e1
      subst e0
      subst e1
      exact ⟨(z0, z1, t), ⟨c0, c1, u2, c2, ht⟩, by simpa [Lit.wf, IntKind.min, IntKind.max, IntKind.signed, IntKind.bits] using w1, htl⟩)
    refine ⟨ls, some ⟨b, off, none⟩, cap, by rw [hl], by omega, fun x hx => ?_, fun _ => ⟨b, off, rfl, hb, fun i hi => (hp i (by omega)).1⟩⟩
    obtain ⟨i, hi, hx⟩ := List.getElem_of_mem hx
    have := (hp i (by omega)).2
    rw [getD_of_lt _ _ _ hi, hx] at this
    exact this

set_option maxRecDepth 100000 in
set_option maxHeartbeats 3200000 in
theorem back_in_w (vl : Value) (ls : List Form.Part) (w : World) (hl : RdPart w vl ls) (hll : ls.length ≤ 300) :
    Calls Try.prog 9 #[vl] w fun r w' => r = .returned (.bool true) ∧ Below w.heap.size w w' := by
  obtain ⟨pl, cl, rfl, hl1, hl2, hl3⟩ := hl
  have Hl3 := Lib.hid hl3
  have Hl2 := Lib.hid hl2
  have hd1 : decide (300 < (ls.length : Int)) = false := by simp; omega
  clear hl3 hl2
  go_enter Try.func9, Try.ntmps9
  go_wp2
  go_loopw [3, 4, 14] (fun n bv i wr => ∃ (k : Nat) (p : Option Addr) (m c : Nat), k ≤ ls.length ∧ i = .int .i64 (k : Int) ∧ n = .int .i64 (Form.psum (ls.take k) : Nat) ∧ Form.psum (ls.take k) ≤ 100000 ∧ bv = .slice p m c ∧ m = (Form.pforms (ls.take k)).length ∧ OB wr w.heap.size 5 (.slice p m c) (Form.pforms (ls.take k)) ∧ Below w.heap.size w wr) (fun _ _ i _ => ls.length - (intOf i).toNat)
  case atStart => exact ⟨0, none, 0, 0, Nat.zero_le _, rfl, by simp [Form.psum], by simp [Form.psum], rfl, by simp [Form.pforms], by rw [List.take_zero]; exact OB.nil _ _ _, Below.refl _ _⟩
  case round =>
    obtain ⟨k, p, mm, c, hk, rfl, rfl, hsum, rfl, hmm, hob, hB⟩ := hrel
    have HV := Lib.hid hob
    have HB := Lib.hid hB
    have Hmm := Lib.hid hmm
    clear hob hB hmm
    have hbd : ∀ j, (Form.pforms (ls.take j)).length ≤ 10 * j + Form.psum (ls.take j) := fun j => by
      have := Form.pforms_le (ls.take j) (fun x hx => by have := Hl2.out x (List.mem_of_mem_take hx); exact ⟨this.1, by omega⟩)
      have h2 := List.length_take_le j ls
      omega
    have Hbd := Lib.hid hbd
    have hbk := hbd k
    clear hbd
    by_cases hlt : k < ls.length
    · obtain ⟨bl, ol, rfl, hbl2, hcl⟩ := Hl3.out (by rintro rfl; simp at hlt)
      obtain ⟨hc0, hc1, tv, hc2, htv⟩ := hcl k hlt
      have hmem := Hl2.out (ls.getD k default) (by rw [getD_of_lt _ _ _ hlt]; exact List.getElem_mem _)
      have hps := Form.psum_succ ls k hlt
      have hpf := Form.pforms_succ ls k hlt
      generalize ls.getD k default = q at *
      obtain ⟨kd, m, t⟩ := q
      simp only at hc0 hc1 hc2 htv hmem hps
      obtain ⟨hmb, htl⟩ := hmem
      have hc0' : wr.cell? ⟨bl, ol + k * 3, none⟩ = some (.int .i64 kd) := by rw [HB.out.cell (p := ⟨bl, ol + k * 3, none⟩) hbl2]; exact hc0
      have hc1' : wr.cell? ⟨bl, ol + k * 3 + 1, none⟩ = some (.int .i64 m) := by rw [HB.out.cell (p := ⟨bl, ol + k * 3 + 1, none⟩) hbl2]; exact hc1
      have hc2' : wr.cell? ⟨bl, ol + k * 3 + 2, none⟩ = some tv := by rw [HB.out.cell (p := ⟨bl, ol + k * 3 + 2, none⟩) hbl2]; exact hc2
      have Htv := Lib.hid htv
      obtain ⟨pt, ct, rfl, hpt⟩ := htv
      have Hps := Lib.hid hps
      have Hpf := Lib.hid hpf
      have hsum' : (Form.psum (ls.take k) : Int) ≤ 100000 := by omega
      obtain ⟨s', hs'⟩ : ∃ s', Form.psum (ls.take (k + 1)) = s' := ⟨_, rfl⟩
      have he : (Form.psum (ls.take k) : Int) + (t.length : Int) = (s' : Int) := by omega
      have Hs' := Lib.hid hs'
      have hsb : s' ≤ 9223372036854775807 := by omega
      clear hcl hc0 hc1 hc2 hpt hps hpf hs'
      by_cases hbig : 100000 < s'
      · go_wp2_with (go_at_call 18; with_reducible refine (known_w _).mono ?_; rintro e w2 ⟨rfl, hB⟩; have HB2 := Lib.hid hB; clear hB)
        go_ret
        exact ⟨rfl, HB.out.trans (HB2.out.mono HB.out.size)⟩
      · have hs1 : s' ≤ 100000 := by omega
        have htb : t.length ≤ 100000 := by omega
        have hw := Form.u64_wrap m
        have ha1 := and1_i64 m hmb.1 hmb.2
        obtain ⟨z, hz⟩ : ∃ z : Int, z = m % 2 := ⟨_, rfl⟩
        rw [← hz] at ha1
        obtain ⟨zb, hzb⟩ : ∃ zb, decide (m % 2 = 1) = zb := ⟨_, rfl⟩
        have hz1 : (z == 1) = zb := by rw [hz, ← hzb]; rfl
        have Hzb := Lib.hid hzb
        clear hz hzb
        have hkw : kd = 1 ∨ kd = 2 ∨ kd = 3 ∨ (kd ≠ 1 ∧ kd ≠ 2 ∧ kd ≠ 3) := by omega
        rcases hkw with rfl | rfl | rfl | ⟨h1, h2, h3⟩
        · skip
          have Hx := Lib.hid (Hpf.out.trans (congrArg (Form.pforms (ls.take k) ++ ·) (show Form.pform (1, m, t) = Form.nat (Form.u64 m) by unfold Form.pform; rw [if_pos rfl])))
          go_wp2_with (go_at_call 16; with_reducible refine (nat_w w.heap.size _ (Form.pforms (ls.take k)) (Form.u64 m) _ HV.out (Form.u64_lt m) (by omega) HB.out.size).mono ?_; rintro r w1 ⟨p1, k1, c1, rfl, hk1, ho1, hB1⟩; have Hk1 := Lib.hid hk1; have Ho1 := Lib.hid ho1; have HB1 := Lib.hid (HB.out.trans hB1); clear hk1 ho1 hB1)
          go_roundw
          case rel => exact ⟨k + 1, p1, k1, c1, by omega, by go_num, by rw [Hs'.out], by rw [Hs'.out]; exact hs1, rfl, by rw [Hx.out]; exact Hk1.out, by rw [Hx.out]; exact Ho1.out, HB1.out⟩
          case measure => simp [intOf]; omega
        · skip
          have Hx := Lib.hid (Hpf.out.trans (congrArg (Form.pforms (ls.take k) ++ ·) (show Form.pform (2, m, t) = Form.nat (Form.fold m) by unfold Form.pform; rw [if_neg (by simp), if_pos rfl])))
          go_wp2_with (go_at_call 17; with_reducible refine (int_w w.heap.size _ (Form.pforms (ls.take k)) m _ HV.out hmb.1 hmb.2 (by omega) HB.out.size).mono ?_; rintro r w1 ⟨p1, k1, c1, rfl, hk1, ho1, hB1⟩; have Hk1 := Lib.hid hk1; have Ho1 := Lib.hid ho1; have HB1 := Lib.hid (HB.out.trans hB1); clear hk1 ho1 hB1)
          go_roundw
          case rel => exact ⟨k + 1, p1, k1, c1, by omega, by go_num, by rw [Hs'.out], by rw [Hs'.out]; exact hs1, rfl, by rw [Hx.out]; exact Hk1.out, by rw [Hx.out]; exact Ho1.out, HB1.out⟩
          case measure => simp [intOf]; omega
        · skip
          have Hx := Lib.hid (Hpf.out.trans (congrArg (Form.pforms (ls.take k) ++ ·) (show Form.pform (3, m, t) = Form.flag zb by unfold Form.pform; rw [if_neg (by simp), if_neg (by simp), if_pos rfl, Hzb.out])))
          go_wp2_with (go_at_call 25; with_reducible refine (flag_w w.heap.size _ (Form.pforms (ls.take k)) zb _ HV.out (by omega) HB.out.size).mono ?_; rintro r w1 ⟨p1, k1, c1, rfl, hk1, ho1, hB1⟩; have Hk1 := Lib.hid hk1; have Ho1 := Lib.hid ho1; have HB1 := Lib.hid (HB.out.trans hB1); clear hk1 ho1 hB1)
          go_roundw
          case rel => exact ⟨k + 1, p1, k1, c1, by omega, by go_num, by rw [Hs'.out], by rw [Hs'.out]; exact hs1, rfl, by rw [Hx.out]; exact Hk1.out, by rw [Hx.out]; exact Ho1.out, HB1.out⟩
          case measure => simp [intOf]; omega
        · skip
          have g1 : (kd == 1) = false := beq_eq_false_iff_ne.2 h1
          have g2 : (kd == 2) = false := beq_eq_false_iff_ne.2 h2
          have g3 : (kd == 3) = false := beq_eq_false_iff_ne.2 h3
          have Hx := Lib.hid (Hpf.out.trans (congrArg (Form.pforms (ls.take k) ++ ·) (show Form.pform (kd, m, t) = Form.text t by unfold Form.pform; rw [if_neg h1, if_neg h2, if_neg h3])))
          go_wp2_with (go_at_call 20; with_reducible refine (text_w w _ _ (Form.pforms (ls.take k)) t _ HV.out Htv.out HB.out (by omega) (by omega)).mono ?_; rintro r w1 ⟨p1, k1, c1, rfl, hk1, ho1, hB1⟩; have Hk1 := Lib.hid hk1; have Ho1 := Lib.hid ho1; have HB1 := Lib.hid (HB.out.trans hB1); clear hk1 ho1 hB1)
          go_roundw
          case rel => exact ⟨k + 1, p1, k1, c1, by omega, by go_num, by rw [Hs'.out], by rw [Hs'.out]; exact hs1, rfl, by rw [Hx.out]; exact Hk1.out, by rw [Hx.out]; exact Ho1.out, HB1.out⟩
          case measure => simp [intOf]; omega
    · have hkl : k = ls.length := by omega
      subst hkl
      have hVV := HV.out
      have hmm2 := Hmm.out
      rw [List.take_length] at hVV hmm2 hsum hbk
      have hF : (Form.pforms ls).length ≤ 103000 := by omega
      have hG := HB.out.size
      have HF := Lib.hid hF
      subst hmm2
      have HW := Lib.hid (HB.out.alloc hG (.cells #[.slice p (Form.pforms ls).length c, .int .i64 0, .int .i64 0] 79))
      have HR := Lib.hid (show Rdr (wr.alloc (.cells #[.slice p (Form.pforms ls).length c, .int .i64 0, .int .i64 0] 79)) wr.heap.size (.slice p (Form.pforms ls).length c) 0 0 from heap_alloc_new wr _)
      have HFb := Lib.hid (hVV.rd.keeps ((Keeps.refl wr).alloc (.cells #[.slice p (Form.pforms ls).length c, .int .i64 0, .int .i64 0] 79)))
      have Hoff := Lib.hid (hVV.rd.off (Nat.le_refl wr.heap.size))
      clear hVV hk hlt Hbd Hmm HV
      go_wp2_with (go_at_call 29; refine (new_w _ _ _ _).mono ?_; rintro r w2 ⟨rfl, rfl⟩)
      generalize wr.alloc (.cells #[.slice p (Form.pforms ls).length c, .int .i64 0, .int .i64 0] 79) = W0 at *
      generalize wr.heap.size = G at *
      have hGw : w.heap.size ≤ G := hG
      go_wp2
      go_loopw [77] (fun i wr => ∃ k : Nat, k ≤ ls.length ∧ i = .int .i64 (k : Int) ∧ Rdr wr G (.slice p (Form.pforms ls).length c) (Form.pforms (ls.take k)).length 0 ∧ RdB wr (.slice p (Form.pforms ls).length c) (Form.pforms ls) ∧ Below w.heap.size w wr) (fun i _ => ls.length - (intOf i).toNat)
      case atStart => exact ⟨0, Nat.zero_le _, rfl, HR.out, HFb.out, HW.out⟩
      case round =>
        obtain ⟨k, hk, rfl, hr2, hb2, hB2⟩ := hrel
        have HR2 := Lib.hid hr2
        have Hb2 := Lib.hid hb2
        have HB2 := Lib.hid hB2
        clear hr2 hb2 hB2 HR HFb HW
        by_cases hlt : k < ls.length
        · obtain ⟨bl, ol, rfl, hbl2, hcl⟩ := Hl3.out (by rintro rfl; simp at hlt)
          obtain ⟨hc0, hc1, tv, hc2, htv⟩ := hcl k hlt
          have hmem := Hl2.out (ls.getD k default) (by rw [getD_of_lt _ _ _ hlt]; exact List.getElem_mem _)
          have hpf := Form.pforms_succ ls k hlt
          have hsp := Form.pforms_split ls k hlt
          have htb := Form.psum_le ls k hlt
          have hle := Form.pforms_take_le ls k
          have Hle := Lib.hid hle
          generalize ls.getD k default = q at *
          obtain ⟨kd, m, t⟩ := q
          simp only at hc0 hc1 hc2 htv hmem htb
          obtain ⟨hmb, htl⟩ := hmem
          have hc0' : wr.cell? ⟨bl, ol + k * 3, none⟩ = some (.int .i64 kd) := by rw [HB2.out.cell (p := ⟨bl, ol + k * 3, none⟩) hbl2]; exact hc0
          have hc1' : wr.cell? ⟨bl, ol + k * 3 + 1, none⟩ = some (.int .i64 m) := by rw [HB2.out.cell (p := ⟨bl, ol + k * 3 + 1, none⟩) hbl2]; exact hc1
          have hc2' : wr.cell? ⟨bl, ol + k * 3 + 2, none⟩ = some tv := by rw [HB2.out.cell (p := ⟨bl, ol + k * 3 + 2, none⟩) hbl2]; exact hc2
          have Htv := Lib.hid (htv.below HB2.out)
          have Htvo := Lib.hid (fun x hx => htv.off (g := x) hx)
          obtain ⟨pt, ct, rfl, hpt⟩ := htv
          have Hpf := Lib.hid hpf
          have Hsp := Lib.hid hsp
          clear hcl hc0 hc1 hc2 hpt hpf hsp hle
          have hw := Form.u64_wrap m
          have ha1 := and1_i64 m hmb.1 hmb.2
          obtain ⟨z, hz⟩ : ∃ z : Int, z = m % 2 := ⟨_, rfl⟩
          rw [← hz] at ha1
          obtain ⟨zb, hzb⟩ : ∃ zb, decide (m % 2 = 1) = zb := ⟨_, rfl⟩
          have hz1 : (z == 1) = zb := by rw [hz, ← hzb]; rfl
          have Hzb := Lib.hid hzb
          clear hz hzb
          have hne : bl ≠ G := by omega
          have hkw : kd = 1 ∨ kd = 2 ∨ kd = 3 ∨ (kd ≠ 1 ∧ kd ≠ 2 ∧ kd ≠ 3) := by omega
          rcases hkw with rfl | rfl | rfl | ⟨h1, h2, h3⟩
          · have Hx := Lib.hid (Hpf.out.trans (congrArg (Form.pforms (ls.take k) ++ ·) (show Form.pform (1, m, t) = Form.nat (Form.u64 m) by unfold Form.pform; rw [if_pos rfl])))
            have Hsp2 := Lib.hid (Form.small_back _ _ (Form.u64 m) _ (Form.u64_lt m) (Hsp.out.trans (congrArg (· ++ Form.pforms (ls.drop (k + 1))) (show Form.pform (1, m, t) = Form.nat (Form.u64 m) by unfold Form.pform; rw [if_pos rfl]))))
            go_wp2
            go_region_with (
              go_at_call 30
              refine (rnat_w G _ (Form.pforms ls) _ 0 _ (HR2.out.keeps (Keeps.refl wr).drew) (Hb2.out.keeps (Keeps.refl wr).drew) (by have := Hle.out; omega) (by omega)).mono ?_
              rintro r w3 ⟨n, a1, e1, h1, rfl, hm⟩
              rw [Hsp2.out] at h1
              cases h1
              have Hm3 := Lib.hid hm
              have Hb3 := Lib.hid ((Hb2.out.keeps (Keeps.refl wr).drew).grown hm.2 Hoff.out)
              have HB3 := Lib.hid (HB2.out.drew.grown hm.2 HB2.out.size (fun k e => by cases e; exact hG))
              have hc1'' := hm.2.cell (show wr.drew.cell? ⟨bl, ol + k * 3 + 1, none⟩ = some (.int .i64 m) from hc1') (by simp; omega)
              have hc2'' := hm.2.cell (show wr.drew.cell? ⟨bl, ol + k * 3 + 2, none⟩ = some (.slice pt t.length ct) from hc2') (by simp; omega)
              clear hm)
            all_goals go_wp2
            all_goals go_roundw
            all_goals first
              | exact ⟨k + 1, by omega, by go_num, by rw [Hx.out, List.length_append]; exact Hm3.out.1, Hb3.out, HB3.out⟩
              | exact ⟨k + 1, by omega, by go_num, by rw [Hx.out, List.length_append]; exact Hm3.out.1.keeps (Keeps.refl _).drew, Hb3.out.keeps (Keeps.refl _).drew, HB3.out.drew⟩
              | (simp [intOf]; omega)
          · have Hx := Lib.hid (Hpf.out.trans (congrArg (Form.pforms (ls.take k) ++ ·) (show Form.pform (2, m, t) = Form.nat (Form.fold m) by unfold Form.pform; rw [if_neg (by simp), if_pos rfl])))
            have Hsp2 := Lib.hid (Form.small_back _ _ (Form.fold m) _ (Form.fold_lt hmb.1 hmb.2) (Hsp.out.trans (congrArg (· ++ Form.pforms (ls.drop (k + 1))) (show Form.pform (2, m, t) = Form.nat (Form.fold m) by unfold Form.pform; rw [if_neg (by simp), if_pos rfl]))))
            go_wp2
            go_region_with (
              go_at_call 31
              refine (rint_w G _ (Form.pforms ls) _ 0 _ (HR2.out.keeps (Keeps.refl wr).drew) (Hb2.out.keeps (Keeps.refl wr).drew) (by have := Hle.out; omega) (by omega)).mono ?_
              rintro r w3 ⟨n, a1, e1, h1, rfl, hm⟩
              rw [Hsp2.out] at h1
              cases h1
              rw [Form.unfold_fold]
              have Hm3 := Lib.hid hm
              have Hb3 := Lib.hid ((Hb2.out.keeps (Keeps.refl wr).drew).grown hm.2 Hoff.out)
              have HB3 := Lib.hid (HB2.out.drew.grown hm.2 HB2.out.size (fun k e => by cases e; exact hG))
              have hc1'' := hm.2.cell (show wr.drew.cell? ⟨bl, ol + k * 3 + 1, none⟩ = some (.int .i64 m) from hc1') (by simp; omega)
              have hc2'' := hm.2.cell (show wr.drew.cell? ⟨bl, ol + k * 3 + 2, none⟩ = some (.slice pt t.length ct) from hc2') (by simp; omega)
              clear hm)
            all_goals go_wp2
            all_goals go_roundw
            all_goals first
              | exact ⟨k + 1, by omega, by go_num, by rw [Hx.out, List.length_append]; exact Hm3.out.1, Hb3.out, HB3.out⟩
              | exact ⟨k + 1, by omega, by go_num, by rw [Hx.out, List.length_append]; exact Hm3.out.1.keeps (Keeps.refl _).drew, Hb3.out.keeps (Keeps.refl _).drew, HB3.out.drew⟩
              | (simp [intOf]; omega)
          · have Hx := Lib.hid (Hpf.out.trans (congrArg (Form.pforms (ls.take k) ++ ·) (show Form.pform (3, m, t) = Form.flag zb by unfold Form.pform; rw [if_neg (by simp), if_neg (by simp), if_pos rfl, Hzb.out])))
            have Hsp2 := Lib.hid (Form.flg_back _ _ zb _ (Hsp.out.trans (congrArg (· ++ Form.pforms (ls.drop (k + 1))) (show Form.pform (3, m, t) = Form.flag zb by unfold Form.pform; rw [if_neg (by simp), if_neg (by simp), if_pos rfl, Hzb.out]))))
            go_wp2
            go_region_with (
              go_at_call 40
              refine (rflag_w G _ (Form.pforms ls) _ 0 _ (HR2.out.keeps (Keeps.refl wr).drew) (Hb2.out.keeps (Keeps.refl wr).drew) (by have := Hle.out; omega) (by omega) Hoff.out).mono ?_
              rintro r w3 ⟨f1, a1, e1, h1, rfl, hm⟩
              rw [Hsp2.out] at h1
              cases h1
              have Hm3 := Lib.hid hm
              have Hb3 := Lib.hid ((Hb2.out.keeps (Keeps.refl wr).drew).grown hm.2 Hoff.out)
              have HB3 := Lib.hid (HB2.out.drew.grown hm.2 HB2.out.size (fun k e => by cases e; exact hG))
              have hc1'' := hm.2.cell (show wr.drew.cell? ⟨bl, ol + k * 3 + 1, none⟩ = some (.int .i64 m) from hc1') (by simp; omega)
              have hc2'' := hm.2.cell (show wr.drew.cell? ⟨bl, ol + k * 3 + 2, none⟩ = some (.slice pt t.length ct) from hc2') (by simp; omega)
              clear hm)
            all_goals go_wp2
            all_goals go_roundw
            all_goals first
              | exact ⟨k + 1, by omega, by go_num, by rw [Hx.out, List.length_append]; exact Hm3.out.1, Hb3.out, HB3.out⟩
              | exact ⟨k + 1, by omega, by go_num, by rw [Hx.out, List.length_append]; exact Hm3.out.1.keeps (Keeps.refl _).drew, Hb3.out.keeps (Keeps.refl _).drew, HB3.out.drew⟩
              | (simp [intOf]; omega)
          · have g1 : (kd == 1) = false := beq_eq_false_iff_ne.2 h1
            have g2 : (kd == 2) = false := beq_eq_false_iff_ne.2 h2
            have g3 : (kd == 3) = false := beq_eq_false_iff_ne.2 h3
            have Hx := Lib.hid (Hpf.out.trans (congrArg (Form.pforms (ls.take k) ++ ·) (show Form.pform (kd, m, t) = Form.text t by unfold Form.pform; rw [if_neg h1, if_neg h2, if_neg h3])))
            have Hsp2 := Lib.hid (Form.txt_back _ _ t _ 100000 (by omega) (by show t.length ≤ (100000 : Int).toNat; omega) (Hsp.out.trans (congrArg (· ++ Form.pforms (ls.drop (k + 1))) (show Form.pform (kd, m, t) = Form.text t by unfold Form.pform; rw [if_neg h1, if_neg h2, if_neg h3]))))
            obtain ⟨St, ESt⟩ : ∃ S, Hid ((⟨t.toArray⟩ : ByteArray) = S) := ⟨_, Lib.hid rfl⟩
            have hcA1 := run_convert_str (P := Try.prog) (Htv.out.keeps (Keeps.refl wr).drew) 24 5 9 Try.underlying24 Try.underlying5 Try.underlying9
            rw [ESt.out] at hcA1
            go_wp2
            go_region_with (
              go_at_call 32
              refine (rtext_w G _ (Form.pforms ls) _ 0 100000 _ (HR2.out.keeps (Keeps.refl wr).drew) (Hb2.out.keeps (Keeps.refl wr).drew) (by have := Hle.out; omega) (by omega) Hoff.out (by decide)).mono ?_
              rintro r w3 ⟨t1, a1, e1, p3, k3, c3, h1, rfl, hk3, ho3, hm⟩
              rw [Hsp2.out] at h1
              cases h1
              subst hk3
              have hcB := run_convert_str (P := Try.prog) ho3.rd 24 5 9 Try.underlying24 Try.underlying5 Try.underlying9
              have hcC := run_convert_str (P := Try.prog) ((Htv.out.keeps (Keeps.refl wr).drew).grown hm.2 (Htvo.out G hG)) 24 5 9 Try.underlying24 Try.underlying5 Try.underlying9
              rw [ESt.out] at hcB hcC
              clear ho3
              have Hm3 := Lib.hid hm
              have Hb3 := Lib.hid ((Hb2.out.keeps (Keeps.refl wr).drew).grown hm.2 Hoff.out)
              have HB3 := Lib.hid (HB2.out.drew.grown hm.2 HB2.out.size (fun k e => by cases e; exact hG))
              have hc1'' := hm.2.cell (show wr.drew.cell? ⟨bl, ol + k * 3 + 1, none⟩ = some (.int .i64 m) from hc1') (by simp; omega)
              have hc2'' := hm.2.cell (show wr.drew.cell? ⟨bl, ol + k * 3 + 2, none⟩ = some (.slice pt t.length ct) from hc2') (by simp; omega)
              clear hm)
            all_goals go_wp2
            all_goals go_roundw
            all_goals first
              | exact ⟨k + 1, by omega, by go_num, by rw [Hx.out, List.length_append]; exact Hm3.out.1, Hb3.out, HB3.out⟩
              | exact ⟨k + 1, by omega, by go_num, by rw [Hx.out, List.length_append]; exact Hm3.out.1.keeps (Keeps.refl _).drew, Hb3.out.keeps (Keeps.refl _).drew, HB3.out.drew⟩
              | (simp [intOf]; omega)
        · have hkl : k = ls.length := by omega
          subst hkl
          have hr3 := HR2.out
          rw [List.take_length] at hr3
          have HR3 := Lib.hid hr3
          have hz0 : Form.done (Form.pforms ls).length (Form.pforms ls).length 0 = 0 := by unfold Form.done; rw [if_neg (by omega)]
          have Hz0 := Lib.hid hz0
          clear hr3 HR2 hz0
          go_wp2_with (first
            | (go_at_call 35; refine (done_w _ _ (Form.pforms ls) _ _ _ HR3.out Hb2.out (Nat.le_refl _)).mono ?_; rintro r w3 ⟨rfl, hs⟩; have HS := Lib.hid hs; clear hs; rw [Hz0.out])
            | (go_at_call 34; refine (left_w _ _ (Form.pforms ls) _ _ _ (HR3.out.same HS.out) (Hb2.out.keeps (.of_heap HS.out.heap)) (Nat.le_refl _) (by omega)).mono ?_; rintro r w4 ⟨rfl, hs⟩; have HS2 := Lib.hid hs; clear hs; rw [Nat.sub_self])
            | (go_at_call 18; with_reducible refine (known_w _).mono ?_; rintro e w6 ⟨rfl, hB⟩; have HB6 := Lib.hid hB; clear hB))
          go_ret
          have hB5 : Below w.heap.size w w4 := (HB2.out.trans HS.out.below).trans HS2.out.below
          exact ⟨rfl, hB5.trans (HB6.out.mono hB5.size)⟩

set_option maxRecDepth 100000 in
theorem back_w (vl : Value) (ls : List Form.Part) (w : World) (hl : RdPart w vl ls) :
    Calls Try.prog 9 #[vl] w fun r w' => r = .returned (.bool true) ∧ Below w.heap.size w w' := by
  by_cases hll : ls.length ≤ 300
  · exact back_in_w vl ls w hl hll
  · obtain ⟨pl, cl, rfl, hl1, hl2, hl3⟩ := hl
    have hd1 : decide (300 < (ls.length : Int)) = true := by simp; omega
    clear hl3 hl2
    go_enter Try.func9, Try.ntmps9
    go_wp2_with (go_at_call 18; with_reducible refine (known_w _).mono ?_; rintro e w2 ⟨rfl, hB⟩; have HB2 := Lib.hid hB; clear hB)
    go_ret
    exact ⟨rfl, HB2.out⟩
end Go.Proofs.Ytpbdnndpdidagaa
