/- The law of TrackMeets: the calls that are looked at. -/
import Derived.Test.YteellfgiejnigaaT19
namespace Go.Proofs.Yteellfgiejnigaa
open Go.ChangeShapes Go.WideShapes Go.ChangeAt Go.RowKit
set_option linter.unusedVariables false

theorem EsR.touch {S R : Foot} {w w' : World} {v : Value} {es : List Ent} (h : EsR w R v es) (t : Touch S w w') (hd : ∀ b, b < w.heap.size → R b → ¬ S b) : EsR w' R v es :=
  ((h.mono (S' := fun b => R b ∧ b < w.heap.size) fun b hb k => ⟨k, hb⟩).frame (t.same (fun b hb => hb.2) fun b hb => hd b hb.2 hb.1)).mono fun b _ hb => hb.1
theorem EsG.touch {S R : Foot} {w w' : World} {e : TypeId} {v : Value} {es : List Ent} (h : EsG w R e v es) (t : Touch S w w') (hd : ∀ b, b < w.heap.size → R b → ¬ S b) : EsG w' R e v es :=
  ((h.mono (S' := fun b => R b ∧ b < w.heap.size) fun b hb k => ⟨k, hb⟩).frame (t.same (fun b hb => hb.2) fun b hb => hd b hb.2 hb.1)).mono fun b _ hb => hb.1
theorem EsR.len_form {w : World} {S : Foot} {v : Value} {es : List Ent} (h : EsR w S v es) : ∃ p c, v = .slice p es.length c := by obtain ⟨p, c, xs, e, _⟩ := h; exact ⟨p, c, e⟩
theorem EsR.hi {w : World} {S : Foot} {p : Option Addr} {n c : Nat} {es : List Ent} (h : EsR w S (.slice p n c) es) {m : Nat} (hm : m ≤ es.length) : EsR w S (.slice p m c) (es.take m) := by
  obtain ⟨p', c', xs, e, h1, h2, h3, h4, h5⟩ := h
  cases e
  have hl : (es.take m).length = m := by rw [List.length_take]; omega
  refine ⟨p, c, xs.take (m * 2), by rw [hl], by omega, h2, h3, h4.take m, fun hne => ?_⟩
  obtain ⟨b, off, hp, hb, hlt, hc⟩ := h5 (by intro e; subst e; simp at hne)
  refine ⟨b, off, hp, hb, hlt, fun j u hu => ?_⟩
  rw [List.getElem?_take] at hu
  split at hu
  · exact hc j u hu
  · cases hu
theorem run_slice_hi_u (t e : TypeId) (ht : Try.prog.underlying t = some (.slice e)) (sz : Nat) (hsz : (Try.prog.info? e).map (·.size) = some sz) (p : Option Addr) (len cap : Nat) (n : Nat) (hn : n ≤ cap) (w : World) :
    (Instr.sliceAt t (.slice p len cap) none (some (.int .u64 (n : Int))) none).run Try.prog w = .ok (.slice p n cap) w := by
  obtain ⟨i, hi, hsi⟩ := Option.map_eq_some_iff.1 hsz
  simp [Instr.sliceAt, Instr.slice, Instr.sliceBounds, Instr.sliceBound, asIntOf, Sem.run_bind, run_underlying ht, sizeOf, typeInfo, hi, hn, Addr_add_zero]
theorem slice_all {B B1 : Nat} {es : List Ent} (h : B1 = B + 1) (hn : es.length ≤ 100) : sliceR B es B1 100 = es := by
  unfold sliceR
  subst h
  by_cases h0 : es.length = 0
  · rw [List.eq_nil_of_length_eq_zero h0]; simp
  · rw [if_neg (by omega), show B + 1 - B - 1 = 0 by omega, List.drop_zero]
    exact List.take_of_length_le (by show es.length ≤ 100; exact hn)

set_option maxRecDepth 100000 in
set_option maxHeartbeats 1600000 in
theorem meets_old_w (B T prev at' : Nat) (v1 v2 : Value) (es ss : List Ent) (w : World) (S1 S2 : Foot) (h1 : EsR w S1 v1 es) (h2 : EsR w S2 v2 ss) (hl1 : es.length ≤ 30) (hl2 : ss.length ≤ 30) (k1 : ∀ e ∈ es, e.2.length ≤ 140737488351232) (k2 : ∀ e ∈ ss, e.2.length ≤ 140737488351232)
    (ht : tameR [es, ss] = true) (hb : B ≤ 9223372036854775808) (hp : prev ≤ 9223372036854775808) (hT : T < 2 ^ 64) (hat : at' < 2 ^ 64) (hm : meetR B T es prev at' ss = (0, [], 240)) :
    Calls Try.prog 5 #[.int .u64 (B : Int), .int .u64 (T : Int), v1, v2, .int .u64 (prev : Int), .int .u64 (at' : Int)] w fun r w' => r = .returned (.bool true) ∧ Below w.heap.size w w' := by
  obtain ⟨p1, c1, rfl⟩ := h1.len_form
  obtain ⟨p2, c2, rfl⟩ := h2.len_form
  have d1 : decide (30 < (es.length : Int)) = false := by simp; omega
  have d2 : decide (30 < (ss.length : Int)) = false := by simp; omega
  have d3 : decide (9223372036854775808 < (B : Int)) = false := by simp; omega
  have d4 : decide (9223372036854775808 < (prev : Int)) = false := by simp; omega
  have HTm := Lib.hid (tame2_w _ _ es ss w S1 S2 h1 h2 k1 k2)
  have HB1 := Lib.hid (tame2_b w (.slice p1 es.length c1) (.slice p2 ss.length c2))
  rw [ht] at HTm
  have ht5 : osum [es, ss] < 50000 := by unfold tameR at ht; simp only [decide_eq_true_eq] at ht; exact ht.2.2
  have q1 : ∀ e ∈ es, e.2.length ≤ 1000000 := fun e he => by have := le_dsum es e he; simp only [osum] at ht5; omega
  have q2 : ∀ e ∈ ss, e.2.length ≤ 1000000 := fun e he => by have := le_dsum ss e he; simp only [osum] at ht5; omega
  have Hq1 := Lib.hid q1
  have Hq2 := Lib.hid q2
  have H1 := Lib.hid (h1.mono (S' := fun b => b < w.heap.size) fun b hb _ => hb)
  have H2 := Lib.hid (h2.mono (S' := fun b => b < w.heap.size) fun b hb _ => hb)
  have Htk := Lib.hid (show es.take (18446744073709551615 - B) = es from List.take_of_length_le (by omega))
  have HM := Lib.hid hm
  clear h1 h2 k1 k2 ht ht5 q1 q2 hm
  go_enter Try.func5, Try.ntmps5
  go_wp2_with (first
    | (go_at_call 21; refine (HTm.out).mono ?_; rintro r w2 ⟨rfl, hB⟩; have HB2 := Lib.hid (HB1.out.trans (hB.mono HB1.out.size)); clear hB HTm HB1)
    | (go_at_call 22; refine (new_w (fun b => b < w.heap.size) B T _ es w2 (by omega) (by omega) (H1.out.keeps HB2.out.block) (by omega) Hq1.out).mono ?_; rintro r w3 ⟨rfl, ⟨v3, ht3⟩, hB⟩; rw [Htk.out] at ht3; have hs2 := HB2.out.size; have hs3 : w2.heap.size < w3.heap.size := ht3.lt; have HT3 := Lib.hid (ht3.mono (S' := fun b => w.heap.size ≤ b ∧ b < w3.heap.size) fun b hlt hb => ⟨Nat.le_trans hs2 hb, hlt⟩); have HB3 := Lib.hid (HB2.out.trans (hB.mono HB2.out.size)); clear hB ht3)
    | (go_at_call 23; refine (tip_w _ _ B T _ es _ HT3.out (by omega)).mono ?_; rintro r w4 ⟨rfl, hB⟩; have hs4 := hB.size; have HT4 := Lib.hid (HT3.out.keeps hB.block); have HB4 := Lib.hid (HB3.out.trans (hB.mono HB3.out.size)); clear hB HT3)
    | (go_at_call 24; refine (meet_w _ (fun b => b < w.heap.size) _ B T prev at' _ _ es ss _ HT4.out (H2.out.keeps HB4.out.block) (by omega) (by omega) (by omega) Hq2.out).mono ?_; rintro r w5 ⟨av, rfl, ha, hB⟩; rw [HM.out] at ha ⊢; obtain ⟨p3, c3, rfl⟩ := ha.len_form; have hs5 := hB.size; have HA5 := Lib.hid (ha.mono (S' := fun b => w3.heap.size ≤ b) fun b _ hb => Nat.le_trans hs4 hb); have HT5 := Lib.hid (HT4.out.keeps hB.block); have HB5 := Lib.hid (HB4.out.trans (hB.mono HB4.out.size)); clear hB ha HT4)
    | (go_at_call 15; refine (known24_w _).mono ?_; rintro r w13 ⟨rfl, hB⟩; have HB13 := Lib.hid (HB5.out.trans (hB.mono HB5.out.size)); clear hB))
  go_ret
  exact ⟨rfl, HB13.out⟩
set_option maxRecDepth 100000 in
set_option maxHeartbeats 1600000 in
theorem meets_gap_w (B T prev at' : Nat) (v1 v2 : Value) (es ss : List Ent) (w : World) (S1 S2 : Foot) (h1 : EsR w S1 v1 es) (h2 : EsR w S2 v2 ss) (hl1 : es.length ≤ 30) (hl2 : ss.length ≤ 30) (k1 : ∀ e ∈ es, e.2.length ≤ 140737488351232) (k2 : ∀ e ∈ ss, e.2.length ≤ 140737488351232)
    (ht : tameR [es, ss] = true) (hb : B ≤ 9223372036854775808) (hp : prev ≤ 9223372036854775808) (hT : T < 2 ^ 64) (hat : at' < 2 ^ 64) (hm : meetR B T es prev at' ss = (0, [], 241)) :
    Calls Try.prog 5 #[.int .u64 (B : Int), .int .u64 (T : Int), v1, v2, .int .u64 (prev : Int), .int .u64 (at' : Int)] w fun r w' => r = .returned (.bool true) ∧ Below w.heap.size w w' := by
  obtain ⟨p1, c1, rfl⟩ := h1.len_form
  obtain ⟨p2, c2, rfl⟩ := h2.len_form
  have d1 : decide (30 < (es.length : Int)) = false := by simp; omega
  have d2 : decide (30 < (ss.length : Int)) = false := by simp; omega
  have d3 : decide (9223372036854775808 < (B : Int)) = false := by simp; omega
  have d4 : decide (9223372036854775808 < (prev : Int)) = false := by simp; omega
  have HTm := Lib.hid (tame2_w _ _ es ss w S1 S2 h1 h2 k1 k2)
  have HB1 := Lib.hid (tame2_b w (.slice p1 es.length c1) (.slice p2 ss.length c2))
  rw [ht] at HTm
  have ht5 : osum [es, ss] < 50000 := by unfold tameR at ht; simp only [decide_eq_true_eq] at ht; exact ht.2.2
  have q1 : ∀ e ∈ es, e.2.length ≤ 1000000 := fun e he => by have := le_dsum es e he; simp only [osum] at ht5; omega
  have q2 : ∀ e ∈ ss, e.2.length ≤ 1000000 := fun e he => by have := le_dsum ss e he; simp only [osum] at ht5; omega
  have Hq1 := Lib.hid q1
  have Hq2 := Lib.hid q2
  have H1 := Lib.hid (h1.mono (S' := fun b => b < w.heap.size) fun b hb _ => hb)
  have H2 := Lib.hid (h2.mono (S' := fun b => b < w.heap.size) fun b hb _ => hb)
  have Htk := Lib.hid (show es.take (18446744073709551615 - B) = es from List.take_of_length_le (by omega))
  have HM := Lib.hid hm
  clear h1 h2 k1 k2 ht ht5 q1 q2 hm
  go_enter Try.func5, Try.ntmps5
  go_wp2_with (first
    | (go_at_call 21; refine (HTm.out).mono ?_; rintro r w2 ⟨rfl, hB⟩; have HB2 := Lib.hid (HB1.out.trans (hB.mono HB1.out.size)); clear hB HTm HB1)
    | (go_at_call 22; refine (new_w (fun b => b < w.heap.size) B T _ es w2 (by omega) (by omega) (H1.out.keeps HB2.out.block) (by omega) Hq1.out).mono ?_; rintro r w3 ⟨rfl, ⟨v3, ht3⟩, hB⟩; rw [Htk.out] at ht3; have hs2 := HB2.out.size; have hs3 : w2.heap.size < w3.heap.size := ht3.lt; have HT3 := Lib.hid (ht3.mono (S' := fun b => w.heap.size ≤ b ∧ b < w3.heap.size) fun b hlt hb => ⟨Nat.le_trans hs2 hb, hlt⟩); have HB3 := Lib.hid (HB2.out.trans (hB.mono HB2.out.size)); clear hB ht3)
    | (go_at_call 23; refine (tip_w _ _ B T _ es _ HT3.out (by omega)).mono ?_; rintro r w4 ⟨rfl, hB⟩; have hs4 := hB.size; have HT4 := Lib.hid (HT3.out.keeps hB.block); have HB4 := Lib.hid (HB3.out.trans (hB.mono HB3.out.size)); clear hB HT3)
    | (go_at_call 24; refine (meet_w _ (fun b => b < w.heap.size) _ B T prev at' _ _ es ss _ HT4.out (H2.out.keeps HB4.out.block) (by omega) (by omega) (by omega) Hq2.out).mono ?_; rintro r w5 ⟨av, rfl, ha, hB⟩; rw [HM.out] at ha ⊢; obtain ⟨p3, c3, rfl⟩ := ha.len_form; have hs5 := hB.size; have HA5 := Lib.hid (ha.mono (S' := fun b => w3.heap.size ≤ b) fun b _ hb => Nat.le_trans hs4 hb); have HT5 := Lib.hid (HT4.out.keeps hB.block); have HB5 := Lib.hid (HB4.out.trans (hB.mono HB4.out.size)); clear hB ha HT4)
    | (go_at_call 15; refine (known24_w _).mono ?_; rintro r w13 ⟨rfl, hB⟩; have HB13 := Lib.hid (HB5.out.trans (hB.mono HB5.out.size)); clear hB))
  go_ret
  exact ⟨rfl, HB13.out⟩
end Go.Proofs.Yteellfgiejnigaa
