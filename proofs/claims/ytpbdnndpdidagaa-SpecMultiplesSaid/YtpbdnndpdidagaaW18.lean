/- Walk of the document's Text. -/
import Derived.Test.YtpbdnndpdidagaaW17
namespace Go.Proofs.Ytpbdnndpdidagaa
open Go.ChangeShapes Go.WideShapes Go.ChangeAt Go.RowKit
set_option linter.unusedVariables false

theorem txt_ways2 (d : List UInt8) (n cnt f M : Nat) (hl : d.length ≤ 1000000) (h : Form.rd 0 0 d = (n, cnt, f)) :
    (f = 0 ∧ M < n) ∨
    (f = 0 ∧ n ≤ M ∧ ∃ m : Nat, (d.length : Int) - (cnt : Int) = (m : Int) ∧ m ≤ 1000000 ∧ IntKind.u64.wrap (m : Int) = (m : Int) ∧ m < n ∧ Hid (m = d.length - cnt ∧ ¬ M < n)) ∨
    (f = 0 ∧ n ≤ M ∧ ∃ m s : Nat, (d.length : Int) - (cnt : Int) = (m : Int) ∧ m ≤ 1000000 ∧ IntKind.u64.wrap (m : Int) = (m : Int) ∧ n ≤ m ∧ (cnt : Int) + (n : Int) = (s : Int) ∧ s ≤ d.length ∧ Hid (m = d.length - cnt ∧ ¬ M < n ∧ s = cnt + n)) ∨
    (((f : Int) == 0) = false ∧ ((f : Int) != 0) = true ∧ Hid (f ≠ 0)) := by
  rcases Nat.eq_zero_or_pos f with hf | hf
  · have h1 := (Form.rd_cnt d 0 0).1
    rw [h] at h1
    simp only [Nat.zero_add] at h1
    have hw : IntKind.u64.wrap ((d.length - cnt : Nat) : Int) = ((d.length - cnt : Nat) : Int) := IntWalk.u64_in _ (by omega)
    rcases Nat.lt_or_ge M n with h2 | h2
    · exact .inl ⟨hf, h2⟩
    · rcases Nat.lt_or_ge (d.length - cnt) n with h3 | h3
      · exact .inr (.inl ⟨hf, h2, d.length - cnt, by omega, by omega, hw, h3, Lib.hid ⟨rfl, by omega⟩⟩)
      · exact .inr (.inr (.inl ⟨hf, h2, d.length - cnt, cnt + n, by omega, by omega, hw, h3, by omega, by omega, Lib.hid ⟨rfl, by omega, rfl⟩⟩))
  · exact .inr (.inr (.inr ⟨beq_eq_false_iff_ne.2 (by omega), by rw [bne_iff_ne]; omega, Lib.hid (by omega)⟩))

theorem RRd.keeps {w w' : World} {g : Nat} {T : TypeId} {v : Value} {e : Int} (h : RRd w g T v e) (hk : Keeps w w') : RRd w' g T v e := by
  unfold RRd at *
  rw [hk g (Array.getElem?_eq_some_iff.1 h).1]; exact h
theorem OB.setOther {w : World} {base : Nat} {e : TypeId} {v : Value} {l : List UInt8} (h : OB w base e v l) {g : Nat} (hg : g < base) (i : Nat) (x : Value) : OB (w.setCell ⟨g, i, none⟩ x) base e v l := by
  refine ⟨h.1, ?_⟩
  rcases h.2 with h2 | ⟨k, cap, cur, hv, hk, hh, r⟩
  · exact .inl h2
  · exact .inr ⟨k, cap, cur, hv, hk, by rw [(Lib.grownBy_setCell w g i x).block k (Array.getElem?_eq_some_iff.1 hh).1 (by simp; omega)]; exact hh, r⟩
/-- What the document's Text leaves. -/
def RTxt (w : World) (g : Nat) (T : TypeId) (b : List UInt8) (a : Nat) (e most : Int) (N : Nat) (r : Ending) (w' : World) : Prop :=
  ∃ (t : List UInt8) (a' : Nat) (e' : Int) (p : Option Addr) (k c : Nat), Form.txt b a e most = (t, a', e') ∧ r = .returned (.slice p k c) ∧ k = t.length ∧ OB w' w.heap.size 5 (.slice p k c) t ∧ RM w w' g T b a' e' N

theorem txt_eq (b : List UInt8) (a : Nat) (most : Int) (n cnt f M : Nat) (hM : most.toNat = M) (h : Form.rd 0 0 (b.drop a) = (n, cnt, f)) :
    Form.txt b a 0 most = if f ≠ 0 then ([], a, (f : Int)) else if M < n then ([], a, 3) else if (b.drop a).length - cnt < n then ([], a, 4) else (((b.drop a).drop cnt).take n, a + (cnt + n), 0) := by
  unfold Form.txt
  rw [if_neg (by simp), h, hM, List.length_drop, List.drop_drop]
  simp only
  split
  · rfl
  · split
    · rfl
    · rw [show b.length - a - cnt = b.length - (a + cnt) by omega, show a + (cnt + n) = a + cnt + n by omega]

set_option maxRecDepth 100000 in
set_option maxHeartbeats 3200000 in
theorem refrtext1_w (g : Nat) (T : TypeId) (b : List UInt8) (a : Nat) (most : Int) (N : Nat) (w : World) (h : RAt w g T b a 0 N) (hg : N ≤ g) (ha : a ≤ b.length) (hl : b.length ≤ 1000000) (hm : -9223372036854775808 ≤ most ∧ most ≤ 9223372036854775807) :
    Calls Try.prog 42 #[.pointer (some ⟨g, 0, none⟩), .int .i64 most] w (RTxt w g T b a 0 most N) := by
  have H := Lib.hid h
  obtain ⟨v, hr, hb, ho⟩ := h
  have Hr := Lib.hid hr
  have hdl : (b.drop a).length ≤ 1000000 := by rw [List.length_drop]; omega
  have Hrd := Lib.hid (refrd_w g T v 0 (b.drop a) w hr hb hdl)
  have hc0 := hr.cell0
  have hc1 := hr.cell1
  have hca := ((Keeps.refl w).alloc (.cells #[] 5)).cell hc0
  have hf0 := hr.frozen 0
  have hf1 := hr.frozen 1
  have Hb := Lib.hid hb
  have Ho := Lib.hid ho
  have Hdd := Lib.hid (fun k => (List.drop_drop (i := k) (j := a) (l := b)))
  obtain ⟨M, hM⟩ : ∃ M, most.toNat = M := ⟨_, rfl⟩
  have Hte := Lib.hid (fun n cnt f => txt_eq b a most n cnt f M hM)
  obtain ⟨p, c, rfl, hp⟩ := hb
  generalize hd : b.drop a = d at *
  have Hd := Lib.hid hd
  clear hp ho hr hd
  have hms : (most < 0 ∧ M = 0) ∨ (0 ≤ most ∧ most = (M : Int) ∧ IntKind.u64.wrap (M : Int) = (M : Int)) := by
    by_cases h : most < 0
    · exact .inl ⟨h, by omega⟩
    · exact .inr ⟨by omega, by omega, IntWalk.u64_in _ (by omega)⟩
  clear hM
  rcases hms with ⟨hm0, rfl⟩ | ⟨hm0, rfl, hMw⟩
  all_goals go_enter Try.func42, Try.ntmps42
  all_goals go_wp2_with (first
    | (
      go_at_call 62
      refine (Hrd.out).mono ?_
      rintro r w1 ⟨rfl, n, cnt, f, hrd, rfl⟩
      first
        | have hw := txt_ways2 d n cnt f M hdl hrd
        | have hw := txt_ways2 d n cnt f 0 hdl hrd
      have Hrd2 := Lib.hid hrd
      clear hrd
      rcases hw with ⟨hf, hw1⟩ | ⟨hf, hw1, m, e1, hw2, e2, hw3, Hk⟩ | ⟨hf, hw1, m, s, e1, hw2, e2, hw3, e3, hs, Hk⟩ | ⟨e1, e2, Hf⟩
      all_goals try subst hf
      all_goals try (
        have hks := Hk.out.2.2
        obtain ⟨q, c2, hsl, hrq, hoq⟩ := slice_mid w p c d cnt n s Hb.out (by omega) hs
        obtain ⟨q2, c3, hsl2, hrq2, hoq2⟩ := slice_from w p c d s Hb.out hs
        have Hq2 := Lib.hid hrq2
        have Hoq2 := Lib.hid hoq2
        have H1 := Lib.hid (OB.new w 5)
        have H2 := Lib.hid (hrq.keeps ((Keeps.refl w).alloc (.cells #[] 5)))
        have hlt : ((d.drop cnt).take n).length ≤ 1000000 := by rw [List.length_take, List.length_drop]; omega
        have Hlt := Lib.hid hlt
        clear hks hrq hoq hrq2 hoq2 hlt))
    | (refine wpList_append_bytes rfl (.tmp 60) (.tmp 70) 24 rfl hel rfl H1.out rfl H2.out (by have := Hlt.out; simp only [List.length_nil]; omega) (by simp) ?_
       intro p1 n1 c1 w2 hn1 ho1 hg1
       have Hn1 := Lib.hid hn1
       have Ho1 := Lib.hid ho1
       have HB1 := Lib.hid (((Below.refl w.heap.size w).alloc (Nat.le_refl _) (.cells #[] 5)).trans (below_own H1.out hg1 (by simp)))
       have Hr2 := Lib.hid (RRd.keeps Hr.out HB1.out.block)
       have hc0' := Hr2.out.cell0
       have hf0' := Hr2.out.frozen 0
       clear hn1 ho1 hg1))
  all_goals go_ret
  all_goals first
    | exact ⟨[], a, 3, _, _, _, by rw [Hte.out _ _ _ Hrd2.out, if_neg (by simp), if_pos (by omega)], rfl, rfl, OB.nil _ _ _, RM.fail Hr.out (Hd.out ▸ Hb.out) Ho.out hg _⟩
    | exact ⟨[], a, 4, _, _, _, by rw [Hte.out _ _ _ Hrd2.out, if_neg (by simp), if_neg (by omega), if_pos (by have := Hk.out.1; omega)], rfl, rfl, OB.nil _ _ _, RM.fail Hr.out (Hd.out ▸ Hb.out) Ho.out hg _⟩
    | exact ⟨[], a, (f : Int), _, _, _, by rw [Hte.out _ _ _ Hrd2.out, if_pos Hf.out], rfl, rfl, OB.nil _ _ _, RM.fail Hr.out (Hd.out ▸ Hb.out) Ho.out hg _⟩
    | (refine ⟨(d.drop cnt).take n, a + (cnt + n), 0, p1, n1, c1, ?_, rfl, Hn1.out, ?_, ?_⟩
       · rw [Hte.out _ _ _ Hrd2.out, if_neg (by simp), if_neg (by omega), if_neg (by have := Hk.out.1; omega)]
       · exact OB.setOther Ho1.out Hr.out.lt _ _
       · have hk := Hk.out.2.2
         have hq2 : RdB w2 (.slice q2 (d.length - s) c3) (b.drop (a + (cnt + n))) := by rw [← Hdd.out (cnt + n), ← hk]; exact Hq2.out.below HB1.out
         have hm2 := RM.go (e := 0) Hr2.out hq2 (fun x hx => Hoq2.out x (Ho.out x hx)) hg
         exact ⟨hm2.at_, (below_grown' HB1.out).trans hm2.grown⟩)

set_option maxRecDepth 100000 in
theorem refrtext_w (g : Nat) (T : TypeId) (b : List UInt8) (a : Nat) (e most : Int) (N : Nat) (w : World) (h : RAt w g T b a e N) (hg : N ≤ g) (ha : a ≤ b.length) (hl : b.length ≤ 1000000) (hm : -9223372036854775808 ≤ most ∧ most ≤ 9223372036854775807) :
    Calls Try.prog 42 #[.pointer (some ⟨g, 0, none⟩), .int .i64 most] w (RTxt w g T b a e most N) := by
  by_cases h0 : e = 0
  · subst h0; exact refrtext1_w g T b a most N w h hg ha hl hm
  · have H := Lib.hid h
    obtain ⟨v, hr, hb, ho⟩ := h
    have hc1 := hr.cell1
    have hd : decide (e = 0) = false := by simp [h0]
    have hd2 : (e != 0) = true := by simp [h0]
    have H0 := Lib.hid h0
    clear h0 hb ho hr
    go_enter Try.func42, Try.ntmps42
    go_wp2
    go_ret
    exact ⟨[], a, e, _, _, _, by unfold Form.txt; rw [if_pos H0.out], rfl, rfl, OB.nil _ _ _, RM.refl H.out⟩
end Go.Proofs.Ytpbdnndpdidagaa
