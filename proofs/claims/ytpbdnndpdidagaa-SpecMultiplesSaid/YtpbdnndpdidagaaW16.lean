/- Walk of the law WireOnly. -/
import Derived.Test.YtpbdnndpdidagaaW15
import Derived.Deep.RegionHeld3
namespace Go.Proofs.Ytpbdnndpdidagaa
open Go.ChangeShapes Go.WideShapes Go.ChangeAt Go.RowKit
set_option linter.unusedVariables false

namespace Form
def again (b : List UInt8) (a : Nat) (e : Int) (f : List UInt8) : Bool := if a = 0 then decide (done b.length a e ≠ 0) else decide (f = b.take a)
theorem rd_take {b : List UInt8} {n c : Nat} (h : rd 0 0 b = (n, c, 0)) : 1 ≤ c ∧ c ≤ b.length ∧ nat n = b.take c := by
  obtain ⟨m, h1, h2, ⟨t, h3⟩, _, _⟩ := rd_form _ _ _ _ _ h
  rw [Nat.pow_zero, Nat.mul_one, Nat.zero_add] at h1
  subst h1
  have := nat_pos n
  rw [Nat.zero_add] at h2
  subst h2
  refine ⟨this, by rw [h3]; simp, by rw [h3]; simp⟩
theorem only_nat {b : List UInt8} {n a' : Nat} {e' : Int} (h : small b 0 0 18446744073709551615 = (n, a', e')) : again b a' e' (nat n) = true := by
  unfold small at h
  rw [if_neg (by simp), List.drop_zero] at h
  obtain ⟨r1, r2, r3, hr⟩ : ∃ r1 r2 r3, rd 0 0 b = (r1, r2, r3) := ⟨_, _, _, rfl⟩
  rw [hr] at h
  simp only at h
  have hlt := rd_lt hr
  by_cases h3 : r3 = 0
  · subst h3
    rw [if_pos rfl, if_neg (by omega)] at h
    cases h
    have ht := rd_take hr
    unfold again
    rw [if_neg (by omega), Nat.zero_add, ht.2.2]; simp
  · rw [if_neg h3] at h
    cases h
    unfold again done
    rw [if_pos rfl, if_neg (by omega)]; simp; exact h3
theorem only_int {b : List UInt8} {n a' : Nat} {e' : Int} (h : small b 0 0 18446744073709551615 = (n, a', e')) : again b a' e' (nat (fold (unfold_ n))) = true := by
  rw [fold_unfold]; exact only_nat h
theorem only_txt {b t : List UInt8} {a' : Nat} {e' m : Int} (h : txt b 0 0 m = (t, a', e')) : again b a' e' (text t) = true := by
  unfold txt at h
  rw [if_neg (by simp), List.drop_zero] at h
  obtain ⟨r1, r2, r3, hr⟩ : ∃ r1 r2 r3, rd 0 0 b = (r1, r2, r3) := ⟨_, _, _, rfl⟩
  rw [hr] at h
  simp only [Nat.zero_add] at h
  by_cases h3 : r3 = 0
  · subst h3
    have ht := rd_take hr
    rw [if_neg (by simp)] at h
    by_cases h4 : m.toNat < r1
    · rw [if_pos h4] at h
      cases h
      unfold again done
      rw [if_pos rfl, if_neg (by omega)]; simp
    · rw [if_neg h4] at h
      by_cases h5 : b.length - r2 < r1
      · rw [if_pos h5] at h
        cases h
        unfold again done
        rw [if_pos rfl, if_neg (by omega)]; simp
      · rw [if_neg h5] at h
        cases h
        unfold again text
        rw [if_neg (by omega), List.length_take, List.length_drop, Nat.min_eq_left (by omega), ht.2.2, List.take_add]; simp
  · rw [if_pos h3] at h
    cases h
    unfold again done
    rw [if_pos rfl, if_neg (by omega)]; simp; exact h3
theorem txt_le {b t : List UInt8} {a a' : Nat} {e e' m : Int} (h : txt b a e m = (t, a', e')) (ha : a ≤ b.length) : a ≤ a' ∧ a' ≤ b.length ∧ t.length ≤ b.length := by
  unfold txt at h
  split at h
  · cases h; exact ⟨Nat.le_refl _, ha, Nat.zero_le _⟩
  · have h1 := (rd_cnt (b.drop a) 0 0).1
    rw [List.length_drop] at h1
    obtain ⟨r, hr⟩ : ∃ r, rd 0 0 (b.drop a) = r := ⟨_, rfl⟩
    obtain ⟨r1, r2, r3⟩ := r
    simp only [hr] at h h1
    split at h
    · cases h; exact ⟨Nat.le_refl _, ha, Nat.zero_le _⟩
    · split at h
      · cases h; exact ⟨Nat.le_refl _, ha, Nat.zero_le _⟩
      · split at h
        · cases h; exact ⟨Nat.le_refl _, ha, Nat.zero_le _⟩
        · cases h
          refine ⟨by omega, by omega, ?_⟩
          rw [List.length_take, List.length_drop]; omega
theorem unfold_bd (n : Nat) (h : n < 2 ^ 64) : -9223372036854775808 ≤ unfold_ n ∧ unfold_ n ≤ 9223372036854775807 := by
  unfold unfold_; split <;> omega
end Form

set_option maxRecDepth 100000 in
theorem left_q (g : Nat) (v : Value) (b : List UInt8) (a : Nat) (e : Int) (w : World) (h : Rdr w g v a e) (hb : RdB w v b) (ha : a ≤ b.length) (hl : b.length ≤ 1000000) :
    Calls Try.prog 34 #[.pointer (some ⟨g, 0, none⟩)] w fun r w' => r = .returned (.int .i64 ((b.length - a : Nat) : Int)) ∧ ∃ m, w' = w.drewN m := by
  obtain ⟨p, c, rfl, hp⟩ := hb
  have hc0 := h.cell0
  have hc1 := h.cell1
  obtain ⟨m, hm⟩ : ∃ m, m = b.length - a := ⟨_, rfl⟩
  have e1 : IntKind.i64.wrap ((b.length : Int) - (a : Int)) = (m : Int) := by rw [show (b.length : Int) - (a : Int) = (m : Int) by omega]; exact IntWalk.i64_in _ (by omega)
  have e2 : (b.length : Int) - (a : Int) = (m : Int) := by omega
  rw [← hm]
  clear h hp hm
  go_enter Try.func34, Try.ntmps34
  go_wp2
  go_quiet (fail)
  go_wp2
  go_ret
  exact ⟨rfl, _, rfl⟩

theorem drewN_keeps (w : World) (k : Nat) : Keeps w (w.drewN k) := .of_heap rfl

theorem quiet_add {P : Program} {f : FuncId} {args : Array Value} {w : World} {a n : Nat} {v : Value}
    (h : Calls P f args (w.drewN (a + n)) fun e w' => e = .returned v ∧ ∃ m, w' = (w.drewN (a + n)).drewN m) :
    Calls P f args (w.drewN (a + n)) fun e w'' => e = .returned v ∧ ∃ m, w'' = w.drewN (a + m) :=
  h.mono fun _ _ ⟨he, m, hm⟩ => ⟨he, n + m, by rw [hm, World.drewN_drewN, Nat.add_assoc]⟩
set_option maxRecDepth 100000 in
set_option maxHeartbeats 800000 in
theorem again_w (g B : Nat) (v vf : Value) (b f : List UInt8) (a : Nat) (e : Int) (w : World) (h : Rdr w g v a e) (hb : RdB w v b) (hf : RdB w vf f) (hB : w.cell? ⟨B, 0, none⟩ = some v) (ha : a ≤ b.length) (hl : b.length ≤ 1000000) (hfl : f.length ≤ 1000000) :
    Calls Try.prog 33 #[.pointer (some ⟨g, 0, none⟩), vf, .pointer (some ⟨B, 0, none⟩)] w fun r w' => r = .returned (.bool (Form.again b a e f)) ∧ RegT.Same w w' := by
  have C := fun k => Calls.quiet_of (w := w) (n := k) (left_q g v b a e _ (h.same (drewN_same w k)) (hb.keeps (drewN_keeps w k)) ha hl)
  have H := Lib.hid h
  have Hb := Lib.hid hb
  have hcf := fun k => run_convert_str (P := Try.prog) (hf.keeps (drewN_keeps w k)) 24 5 9 Try.underlying24 Try.underlying5 Try.underlying9
  have C2 := Lib.hid C
  have C3 := Lib.hid (fun j k => quiet_add (w := w) (a := j) (n := k) (left_q g v b a e _ (h.same (drewN_same w _)) (hb.keeps (drewN_keeps w _)) ha hl))
  obtain ⟨p, c, rfl, hp⟩ := hb
  obtain ⟨pf, cf, rfl, hpf⟩ := hf
  have hdone := fun (W : World) (hs : RegT.Same w W) => done_w g _ b a e W (h.same hs) (Hb.out.keeps (.of_heap hs.heap)) ha
  have Hdone := Lib.hid hdone
  clear hdone C h
  obtain ⟨m, hm⟩ : ∃ m, m = b.length - a := ⟨_, rfl⟩
  rw [← hm] at C2 C3
  by_cases h0 : a = 0
  · have hmb : m = b.length := by omega
    subst hmb
    obtain ⟨z, hz⟩ : ∃ z, Form.done b.length a e = z := ⟨_, rfl⟩
    have hag : Form.again b a e f = decide (z ≠ 0) := by unfold Form.again; rw [if_pos h0, hz]
    rw [hz] at Hdone
    obtain ⟨q, hq⟩ : ∃ q, decide (z ≠ 0) = q := ⟨_, rfl⟩
    have hq2 : (z != 0) = q := by rw [← hq, Bool.eq_iff_iff]; simp
    rw [hag, hq]
    clear hag hq hz hm h0 hcf hp hpf
    go_enter Try.func33, Try.ntmps33
    go_wp2
    go_quiet (with_reducible exact C2.out _)
    go_wp2_with (go_at_call 35; refine (Hdone.out _ (drewN_same _ _)).mono ?_; rintro r w2 ⟨rfl, hs⟩; have HS := Lib.hid hs; clear hs)
    go_ret
    exact ⟨rfl, RegT.Same.trans _ _ _ (drewN_same _ _) HS.out⟩
  · have hne : decide ((m : Int) = (b.length : Int)) = false := by simp; omega
    have hne' : ((m : Int) == (b.length : Int)) = false := by simp; omega
    have e1 : (b.length : Int) - (m : Int) = (a : Int) := by omega
    have hac : a ≤ c := by have := hp.2.1; omega
    have i1 : (0 : Int) ≤ (a : Int) := Int.natCast_nonneg _
    have i2 : (a : Int) ≤ (c : Int) := by omega
    have hsl := fun (W : World) => run_slice_hi 24 5 Try.underlying24 1 (show (Try.prog.info? 5).map (·.size) = some 1 by kernel_rfl) p b.length c a hac W
    have hct := fun k => run_convert_str (P := Try.prog) (v := .slice p a c) (l := b.take a) (⟨p, c, by rw [List.length_take, Nat.min_eq_left ha], (hp.take a).keeps (drewN_keeps w k)⟩ : RdB (w.drewN k) _ _) 24 5 9 Try.underlying24 Try.underlying5 Try.underlying9
    have hag : Form.again b a e f = decide (f = b.take a) := by unfold Form.again; rw [if_neg h0]
    have hss := str_beq f (b.take a)
    generalize b.take a = t at *
    generalize (⟨f.toArray⟩ : ByteArray) = sf at *
    generalize (⟨t.toArray⟩ : ByteArray) = st at *
    obtain ⟨q, hq⟩ : ∃ q, decide (f = t) = q := ⟨_, rfl⟩
    rw [hq] at hss
    rw [hag, hq]
    clear hag hq hm h0 hp hpf Hdone hac
    go_enter Try.func33, Try.ntmps33
    go_wp2
    go_quiet (with_reducible exact C2.out _)
    go_wp2
    go_quiet (with_reducible exact C3.out _ _)
    go_wp2
    go_ret
    exact ⟨rfl, ⟨rfl, rfl, rfl, rfl⟩⟩

theorem Rdr.kept {w w' : World} {g : Nat} {v : Value} {a : Nat} {e : Int} (h : Rdr w g v a e) {row : Option Nat} (hg : w.grownBy w' row) (hne : some g ≠ row) : Rdr w' g v a e := by
  unfold Rdr at *
  rw [hg.block g (Array.getElem?_eq_some_iff.1 h).1 hne]; exact h

/-- Three readers, a text, the bytes, and where the bytes' slice is kept. -/
structure St6 (w W : World) (s : Value) (b : List UInt8) (B g1 a1 : Nat) (e1 : Int) (g2 a2 : Nat) (e2 : Int) (g3 a3 : Nat) (e3 : Int) (tv : Value) (t : List UInt8) : Prop where
  below : Below w.heap.size w W
  r1 : Rdr W g1 s a1 e1
  r2 : Rdr W g2 s a2 e2
  r3 : Rdr W g3 s a3 e3
  bs : RdB W s b
  tx : RdB W tv t
  bx : W.cell? ⟨B, 0, none⟩ = some s
theorem Rdr.keeps {w w' : World} {g : Nat} {v : Value} {a : Nat} {e : Int} (h : Rdr w g v a e) (hk : Keeps w w') : Rdr w' g v a e := by
  unfold Rdr at *
  rw [hk g (Array.getElem?_eq_some_iff.1 h).1]; exact h
theorem St6.grow {w W W' : World} {s : Value} {b : List UInt8} {B g1 a1 : Nat} {e1 : Int} {g2 a2 : Nat} {e2 : Int} {g3 a3 : Nat} {e3 : Int} {tv : Value} {t : List UInt8} (h : St6 w W s b B g1 a1 e1 g2 a2 e2 g3 a3 e3 tv t) (hB : Below W.heap.size W W') : St6 w W' s b B g1 a1 e1 g2 a2 e2 g3 a3 e3 tv t := by
  obtain ⟨h1, h2, h3, h4, h5, h6, h7⟩ := h
  exact ⟨h1.trans (hB.mono h1.size), h2.keeps hB.block, h3.keeps hB.block, h4.keeps hB.block, h5.below hB, h6.below hB, Keeps.cell hB.block h7⟩

set_option maxRecDepth 100000 in
set_option maxHeartbeats 1600000 in
theorem only_in_w (v : Value) (b : List UInt8) (w : World) (hb : RdB w v b) (hl : b.length ≤ 100000) :
    Calls Try.prog 6 #[v] w fun r w' => r = .returned (.bool true) ∧ Below w.heap.size w w' := by
  have Hb := Lib.hid hb
  obtain ⟨p, c, rfl, hp⟩ := hb
  have hd1 : decide (100000 < (b.length : Int)) = false := by simp; omega
  clear hp
  have hk0 : Keeps w (w.alloc (.cells #[.slice p b.length c] 24)) := (Keeps.refl w).alloc _
  have hbox : (w.alloc (.cells #[.slice p b.length c] 24)).cell? ⟨w.heap.size, 0, none⟩ = some (.slice p b.length c) := by rw [cell_of_row _ _ _ _ _ _ (heap_alloc_new w _)]; rfl
  have Hb1 := Lib.hid (Hb.out.keeps hk0)
  have Hbox := Lib.hid hbox
  go_enter Try.func6, Try.ntmps6
  go_wp2
  obtain ⟨w0, hw0⟩ : ∃ w0, w.alloc (.cells #[.slice p b.length c] 24) = w0 := ⟨_, rfl⟩
  rw [hw0] at hbox ⊢
  have HB0 := Lib.hid ((Below.refl w.heap.size w).alloc (Nat.le_refl _) (.cells #[.slice p b.length c] 24))
  have HszB := Lib.hid (show (w.alloc (.cells #[.slice p b.length c] 24)).heap.size = w.heap.size + 1 from heap_alloc_size _ _)
  rw [hw0] at HB0 HszB
  clear hw0
  have hsz0 : w.heap.size < w0.heap.size := by rw [HszB.out]; omega
  have hnn := World.new_ne w0 ⟨w.heap.size, 0, none⟩ hbox
  clear hk0
  have HR1 := Lib.hid (show Rdr (((w0.alloc (.cells #[.slice p b.length c, .int .i64 0, .int .i64 0] 79)).alloc (.cells #[.slice p b.length c, .int .i64 0, .int .i64 0] 79)).alloc (.cells #[.slice p b.length c, .int .i64 0, .int .i64 0] 79)).drew w0.heap.size (.slice p b.length c) 0 0 from
    ((((Keeps.refl _).alloc _).alloc _).drew w0.heap.size (by simp)).trans (heap_alloc_new w0 _))
  have HR2 := Lib.hid (show Rdr (((w0.alloc (.cells #[.slice p b.length c, .int .i64 0, .int .i64 0] 79)).alloc (.cells #[.slice p b.length c, .int .i64 0, .int .i64 0] 79)).alloc (.cells #[.slice p b.length c, .int .i64 0, .int .i64 0] 79)).drew (w0.heap.size + 1) (.slice p b.length c) 0 0 from by
    have h := heap_alloc_new (w0.alloc (.cells #[.slice p b.length c, .int .i64 0, .int .i64 0] 79)) (.cells #[.slice p b.length c, .int .i64 0, .int .i64 0] 79)
    rw [heap_alloc_size] at h
    exact (((Keeps.refl _).alloc _).drew (w0.heap.size + 1) (by simp)).trans h)
  have HR3 := Lib.hid (show Rdr (((w0.alloc (.cells #[.slice p b.length c, .int .i64 0, .int .i64 0] 79)).alloc (.cells #[.slice p b.length c, .int .i64 0, .int .i64 0] 79)).alloc (.cells #[.slice p b.length c, .int .i64 0, .int .i64 0] 79)).drew (w0.heap.size + 2) (.slice p b.length c) 0 0 from by
    have h := heap_alloc_new ((w0.alloc (.cells #[.slice p b.length c, .int .i64 0, .int .i64 0] 79)).alloc (.cells #[.slice p b.length c, .int .i64 0, .int .i64 0] 79)) (.cells #[.slice p b.length c, .int .i64 0, .int .i64 0] 79)
    rw [heap_alloc_size, heap_alloc_size] at h
    exact h)
  have HW := Lib.hid ((((HB0.out.alloc (by have := HszB.out; omega) (.cells #[.slice p b.length c, .int .i64 0, .int .i64 0] 79)).alloc (by have := HszB.out; simp; omega) (.cells #[.slice p b.length c, .int .i64 0, .int .i64 0] 79)).alloc (by have := HszB.out; simp; omega) (.cells #[.slice p b.length c, .int .i64 0, .int .i64 0] 79)).drew)
  have hk3 : ∀ o1 o2 o3, (((w0.alloc o1).alloc o2).alloc o3).drew.cell? ⟨w.heap.size, 0, none⟩ = some (.slice p b.length c) := fun o1 o2 o3 => Keeps.cell (((((Keeps.refl w0).alloc o1).alloc o2).alloc o3).drew) hbox
  go_region_held3 (fun w' => w'.cell? ⟨w.heap.size, 0, none⟩ = some (.slice p b.length c)) (go_keep) ((go_at_call 29; refine (new_w _ _ _ _).mono ?_; rintro e w' ⟨rfl, rfl⟩))
  have HX3 := Lib.hid (hk3 (.cells #[.slice p b.length c, .int .i64 0, .int .i64 0] 79) (.cells #[.slice p b.length c, .int .i64 0, .int .i64 0] 79) (.cells #[.slice p b.length c, .int .i64 0, .int .i64 0] 79))
  clear hk3 hnn hbox
  generalize hWW : (((w0.alloc (.cells #[.slice p b.length c, .int .i64 0, .int .i64 0] 79)).alloc (.cells #[.slice p b.length c, .int .i64 0, .int .i64 0] 79)).alloc (.cells #[.slice p b.length c, .int .i64 0, .int .i64 0] 79)).drew = W at *
  clear hWW
  have HbW := Lib.hid (Hb.out.below HW.out)
  have o1 := Lib.hid (Hb.out.off (g := w0.heap.size) (by omega))
  have o2 := Lib.hid (Hb.out.off (g := w0.heap.size + 1) (by omega))
  have o3 := Lib.hid (Hb.out.off (g := w0.heap.size + 2) (by omega))
  go_wp2_with (first
    | (go_at_call 30; refine (rnat_w _ _ b _ _ _ HR1.out HbW.out (Nat.zero_le _) (by omega)).mono ?_; rintro r w2 ⟨n, a1, e1, hs1, rfl, hm1⟩
       have Hs1 := Lib.hid hs1
       have Hm1 := Lib.hid hm1
       have Hb2 := Lib.hid (HbW.out.grown hm1.2 o1.out)
       have R22 := Lib.hid (HR2.out.kept hm1.2 (by simp))
       have R32 := Lib.hid (HR3.out.kept hm1.2 (by simp))
       have X2 := Lib.hid (hm1.2.cell HX3.out (by simp; omega))
       have B2 := Lib.hid (HW.out.grown hm1.2 HW.out.size (fun k e => by cases e; omega))
       clear hs1 hm1)
    | (go_at_call 31; refine (rint_w _ _ b _ _ _ R22.out Hb2.out (Nat.zero_le _) (by omega)).mono ?_; rintro r w3 ⟨n2, a2, e2, hs2, rfl, hm2⟩
       have Hs2 := Lib.hid hs2
       have Hm2 := Lib.hid hm2
       have Hb3 := Lib.hid (Hb2.out.grown hm2.2 o2.out)
       have R13 := Lib.hid (Hm1.out.1.kept hm2.2 (by simp))
       have R33 := Lib.hid (R32.out.kept hm2.2 (by simp))
       have X3 := Lib.hid (hm2.2.cell X2.out (by simp; omega))
       have B3 := Lib.hid (B2.out.grown hm2.2 B2.out.size (fun k e => by cases e; omega))
       clear hs2 hm2)
    | (go_at_call 32; refine (rtext_w _ _ b _ _ _ _ R33.out Hb3.out (Nat.zero_le _) (by omega) o3.out (by decide)).mono ?_; rintro r w4 ⟨t, a3, e3, pt, kt, ct, hs3, rfl, hk3, ho3, hm3⟩
       subst hk3
       have Hs3 := Lib.hid hs3
       have S4 := Lib.hid (show St6 w w4 (.slice p b.length c) b w.heap.size w0.heap.size a1 e1 (w0.heap.size + 1) a2 e2 (w0.heap.size + 2) a3 e3 (.slice pt t.length ct) t from
         ⟨B3.out.grown hm3.2 B3.out.size (fun k e => by cases e; omega), R13.out.kept hm3.2 (by simp), Hm2.out.1.kept hm3.2 (by simp), hm3.1, Hb3.out.grown hm3.2 o3.out, ho3.rd, hm3.2.cell X3.out (by simp; omega)⟩)
       clear hs3 ho3 hm3))
  have Hn := Lib.hid ((Form.small_le Hs1.out (Nat.zero_le _)).2.2)
  have Hi := Lib.hid (Form.unfold_bd n2 ((Form.small_le Hs2.out (Nat.zero_le _)).2.2))
  have ht := (Form.txt_le Hs3.out (Nat.zero_le _)).2.2
  have A1 := Lib.hid (Form.only_nat Hs1.out)
  have A2 := Lib.hid (Form.only_int Hs2.out)
  have A3 := Lib.hid (Form.only_txt Hs3.out)
  have l1 := Form.nat_len10 Hn.out
  have l2 := Form.nat_len10 (Form.fold_lt Hi.out.1 Hi.out.2)
  have l3 : (Form.text t).length ≤ 100010 := by unfold Form.text; rw [List.length_append]; have := Form.nat_len10 (n := t.length) (by omega); omega
  have b1 := (Form.small_le Hs1.out (Nat.zero_le _)).2.1
  have b2 := (Form.small_le Hs2.out (Nat.zero_le _)).2.1
  have b3 := (Form.txt_le Hs3.out (Nat.zero_le _)).2.1
  clear Hm1 Hm2
  go_wp2_with (first
    | (go_at_call 16; with_reducible refine (nat_w w4.heap.size (.slice none 0 0) [] n _ (OB.nil _ _ _) Hn.out (by decide) (Nat.le_refl _)).mono ?_; rintro r w5 ⟨pn, kn, cn, rfl, hk, ho, hB⟩; rw [List.nil_append] at ho
       have S5 := Lib.hid (S4.out.grow hB)
       have RN := Lib.hid ho.rd
       clear hk ho hB)
    | (go_at_call 33; first
        | (with_reducible refine (again_w w0.heap.size w.heap.size _ _ b (Form.nat n) a1 e1 _ S5.out.r1 S5.out.bs RN.out S5.out.bx b1 (by omega) (by omega)).mono ?_; rintro r w6 ⟨rfl, hs⟩; rw [A1.out]
           have S6 := Lib.hid (S5.out.grow hs.below)
           clear hs)
        | (with_reducible refine (again_w (w0.heap.size + 1) w.heap.size _ _ b (Form.nat (Form.fold (Form.unfold_ n2))) a2 e2 _ S7.out.r2 S7.out.bs RI.out S7.out.bx b2 (by omega) (by omega)).mono ?_; rintro r w8 ⟨rfl, hs⟩; rw [A2.out]
           have S8 := Lib.hid (S7.out.grow hs.below)
           clear hs)
        | (with_reducible refine (again_w (w0.heap.size + 2) w.heap.size _ _ b (Form.text t) a3 e3 _ S9.out.r3 S9.out.bs RT.out S9.out.bx b3 (by omega) (by omega)).mono ?_; rintro r w10 ⟨rfl, hs⟩; rw [A3.out]
           have S10 := Lib.hid (S9.out.grow hs.below)
           clear hs))
    | (go_at_call 17; with_reducible refine (int_w w6.heap.size (.slice none 0 0) [] (Form.unfold_ n2) _ (OB.nil _ _ _) Hi.out.1 Hi.out.2 (by decide) (Nat.le_refl _)).mono ?_; rintro r w7 ⟨pi, ki, ci, rfl, hk, ho, hB⟩; rw [List.nil_append] at ho
       have S7 := Lib.hid (S6.out.grow hB)
       have RI := Lib.hid ho.rd
       clear hk ho hB)
    | (go_at_call 20; with_reducible refine (text_w w8 (.slice none 0 0) _ [] t _ (OB.nil _ _ _) S8.out.tx (Below.refl _ _) (by decide) (by omega)).mono ?_; rintro r w9 ⟨pt2, kt2, ct2, rfl, hk, ho, hB⟩; rw [List.nil_append] at ho
       have S9 := Lib.hid (S8.out.grow hB)
       have RT := Lib.hid ho.rd
       clear hk ho hB)
    | (go_at_call 18; with_reducible refine (known_w _).mono ?_; rintro r w11 ⟨rfl, hB⟩; have HB11 := Lib.hid hB; clear hB))
  go_ret
  exact ⟨rfl, S10.out.below.trans (HB11.out.mono S10.out.below.size)⟩

set_option maxRecDepth 100000 in
theorem only_w (v : Value) (b : List UInt8) (w : World) (hb : RdB w v b) :
    Calls Try.prog 6 #[v] w fun r w' => r = .returned (.bool true) ∧ Below w.heap.size w w' := by
  by_cases hl : b.length ≤ 100000
  · exact only_in_w v b w hb hl
  · have hlb := hb.le
    obtain ⟨p, c, rfl, hp⟩ := hb
    have hd1 : decide (100000 < (b.length : Int)) = true := by simp; omega
    clear hp
    go_enter Try.func6, Try.ntmps6
    go_wp2_with (go_at_call 18; with_reducible refine (known_w _).mono ?_; rintro e w2 ⟨rfl, hB⟩; have HB2 := Lib.hid hB; clear hB)
    go_ret
    exact ⟨rfl, ((Below.refl w.heap.size w).alloc (Nat.le_refl _) _).trans (HB2.out.mono (by simp))⟩
end Go.Proofs.Ytpbdnndpdidagaa
