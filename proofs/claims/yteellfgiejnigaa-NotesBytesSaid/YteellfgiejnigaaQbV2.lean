/- V2: VW10, VW11, VW12, VW13, VW14, VW17, VW18. -/
import Derived.Test.YteellfgiejnigaaQbV1
namespace Go.Proofs.Yteellfgiejnigaa
open Go.ChangeShapes Go.WideShapes Go.ChangeAt Go.RowKit
set_option linter.unusedVariables false
theorem ownsRow_mono_base {w : World} {B base : Nat} {e : TypeId} {v : Value} {l : List UInt8} (h : OB w base e v l) (hB : B ≤ base) : OB w B e v l := by
  refine ⟨h.1, ?_⟩
  rcases h.2 with h2 | ⟨g, cap, cur, hv, hg, r⟩
  · exact .inl h2
  · exact .inr ⟨g, cap, cur, hv, Nat.le_trans hB hg, r⟩

end Go.Proofs.Yteellfgiejnigaa
/- Walks of the reader: one that is not there; Left, Int, Flag, Text, Fail. -/
namespace Go.Proofs.Yteellfgiejnigaa
open Go.ChangeShapes Go.WideShapes Go.ChangeAt Go.RowKit
set_option linter.unusedVariables false
end Go.Proofs.Yteellfgiejnigaa
/- Walks of the document's reader: the number. -/
namespace Go.Proofs.Yteellfgiejnigaa
open Go.ChangeShapes Go.WideShapes Go.ChangeAt Go.RowKit
set_option linter.unusedVariables false
/-- The document's reader lies at block g. -/
def RRd (w : World) (g : Nat) (T : TypeId) (v : Value) (e : Int) : Prop := w.heap[g]? = some (.cells #[v, .int .i64 e] T)
theorem RRd.lt {w : World} {g : Nat} {T : TypeId} {v : Value} {e : Int} (h : RRd w g T v e) : g < w.heap.size := (Array.getElem?_eq_some_iff.1 h).1
theorem RRd.cell0 {w : World} {g : Nat} {T : TypeId} {v : Value} {e : Int} (h : RRd w g T v e) : w.cell? ⟨g, 0, none⟩ = some v := by rw [cell_of_row _ _ _ _ _ _ h]; rfl
theorem RRd.cell1 {w : World} {g : Nat} {T : TypeId} {v : Value} {e : Int} (h : RRd w g T v e) : w.cell? ⟨g, 1, none⟩ = some (.int .i64 e) := by rw [cell_of_row _ _ _ _ _ _ h]; rfl
theorem RRd.frozen {w : World} {g : Nat} {T : TypeId} {v : Value} {e : Int} (h : RRd w g T v e) (i : Nat) : w.frozen? ⟨g, i, none⟩ = false := by
  unfold RRd at h
  simp [World.frozen?, h]
theorem RRd.set1 {w : World} {g : Nat} {T : TypeId} {v : Value} {e : Int} (h : RRd w g T v e) (e' : Int) : RRd (w.setCell ⟨g, 1, none⟩ (.int .i64 e')) g T v e' := by
  unfold RRd at *
  simp only [World.setCell, Array.getElem?_modify, h]; rfl

end Go.Proofs.Yteellfgiejnigaa
/- Walks of the reader: Left, Int, Flag, Text, Fail. -/
namespace Go.Proofs.Yteellfgiejnigaa
open Go.ChangeShapes Go.WideShapes Go.ChangeAt Go.RowKit
set_option linter.unusedVariables false
namespace Form
theorem rd_cnt : ∀ (l : List UInt8) (k acc : Nat), (rd k acc l).2.1 ≤ k + l.length ∧ ((rd k acc l).2.2 ≠ 0 → (rd k acc l).2.1 = 0 ∧ (rd k acc l).1 = 0) := by
  intro l
  induction l with
  | nil => intro k acc; simp [rd]
  | cons x t ih =>
    intro k acc
    rw [rd_step]
    split
    · simp
    · split
      · split
        · simp
        · simp
      · have := ih (k + 1) (acc + x.toNat % 128 * 128 ^ k)
        refine ⟨?_, this.2⟩
        have := this.1
        simp only [List.length_cons]; omega
theorem rd_lt {l : List UInt8} {n c f : Nat} (h : rd 0 0 l = (n, c, f)) : n < 2 ^ 64 := by
  by_cases hf : f = 0
  · subst hf
    obtain ⟨m, h1, _, _, h4, _⟩ := rd_form _ _ _ _ _ h
    rw [Nat.pow_zero, Nat.mul_one] at h1 h4
    omega
  · have := (rd_cnt l 0 0).2
    rw [h] at this
    have := (this hf).2
    simp at this
    omega
theorem small_le {b : List UInt8} {a : Nat} {e : Int} {most n a' : Nat} {e' : Int} (h : small b a e most = (n, a', e')) (ha : a ≤ b.length) : a ≤ a' ∧ a' ≤ b.length ∧ n < 2 ^ 64 := by
  unfold small at h
  split at h
  · cases h; exact ⟨Nat.le_refl _, ha, by decide⟩
  · have h1 := (rd_cnt (b.drop a) 0 0).1
    rw [List.length_drop] at h1
    obtain ⟨r, hr⟩ : ∃ r, rd 0 0 (b.drop a) = r := ⟨_, rfl⟩
    obtain ⟨r1, r2, r3⟩ := r
    have h2 := rd_lt hr
    simp only [hr] at h h1
    split at h
    · split at h
      · cases h; exact ⟨Nat.le_refl _, ha, by decide⟩
      · cases h; exact ⟨by omega, by omega, h2⟩
    · cases h; exact ⟨Nat.le_refl _, ha, by decide⟩
end Form
theorem moved_set1n {w : World} {g : Nat} {v : Value} {a : Nat} {e : Int} (h : Rdr w g v a e) (a' k : Nat) (z : Int) (hz : z = (a' : Int)) : Moved w ((w.setCell ⟨g, 1, none⟩ (.int .i64 z)).drewN k) g v a' e := by
  subst hz
  exact ⟨(h.set1 a').same (drewN_same _ _), (Lib.grownBy_setCell w g 1 _).trans (same_grown (drewN_same _ _) _)⟩
theorem moved_set1m {w : World} {g : Nat} {v : Value} {a : Nat} {e : Int} (h : Rdr w g v a e) (a' k j : Nat) (z : Int) (hz : z = (a' : Int)) : Moved w (((w.drewN j).setCell ⟨g, 1, none⟩ (.int .i64 z)).drewN k) g v a' e := by
  subst hz
  have h2 := h.same (drewN_same w j)
  exact ⟨(h2.set1 a').same (drewN_same _ _), ((same_grown (drewN_same w j) _).trans (Lib.grownBy_setCell (w.drewN j) g 1 _)).trans (same_grown (drewN_same _ _) _)⟩
set_option maxRecDepth 100000 in
theorem rflag_w (g : Nat) (v : Value) (b : List UInt8) (a : Nat) (e : Int) (w : World) (h : Rdr w g v a e) (hb : RdB w v b) (ha : a ≤ b.length) (hl : b.length ≤ 1000000) (ho : Off v g) :
    Calls Try.prog 84 #[.pointer (some ⟨g, 0, none⟩)] w fun r w' => ∃ (f : Bool) (a' : Nat) (e' : Int), Form.flg b a e = (f, a', e') ∧ r = .returned (.bool f) ∧ Moved w w' g v a' e' := by
  have Hoff := Lib.hid (off_w g v a e w h)
  have H := Lib.hid h
  have hc0 := h.cell0
  have hc1 := h.cell1
  have hc2 := h.cell2
  have hf1 := h.frozen 1
  have hf2 := h.frozen 2
  have Hb := Lib.hid hb
  obtain ⟨p, c, rfl, hp⟩ := hb
  have Hp := Lib.hid hp
  clear h hp
  by_cases h0 : e = 0
  · have hd : decide (e ≠ 0) = false := by simp [h0]
    have H0 := Lib.hid h0
    by_cases hlt : a < b.length
    · obtain ⟨bq, oq, rfl, hbq, hcq⟩ := Hp.out.at hlt
      have hfl : Form.flg b a e = if 1 < (b.getD a 0).toNat then (false, a, 5) else (decide ((b.getD a 0).toNat = 1), a + 1, 0) := by
        unfold Form.flg; rw [if_neg (by simp [h0]), List.getElem?_eq_getElem hlt, getD_of_lt _ _ _ hlt]
      have hx := UInt8.toNat_lt (b.getD a 0)
      have Hfl := Lib.hid hfl
      clear hfl h0
      generalize (b.getD a 0).toNat = x at *
      have hne : decide ((a : Int) = (b.length : Int)) = false := by simp; omega
      have hne' : ((a : Int) == (b.length : Int)) = false := by simp; omega
      have hi1 : (0 : Int) ≤ (a : Int) := Int.natCast_nonneg _
      have hi2 : (a : Int) < (b.length : Int) := by omega
      have hbo := ho _ _ _ rfl (by omega)
      have hne3 : bq ≠ g := hbo
      by_cases hx1 : 1 < x
      · go_enter Try.func84, Try.ntmps84
        go_wp2_with (go_at_call 125; refine (Hoff.out).mono ?_; rintro e w1 ⟨rfl, rfl⟩)
        go_quiet (fail)
        go_wp2
        go_quiet (fail)
        go_wp2
        go_ret
        exact ⟨false, a, 5, by rw [Hfl.out, if_pos hx1], rfl, moved_set2 H.out (drewN_same _ _) _⟩
      · have hx1b : decide (1 < (x : Int)) = false := by simp; omega
        have hb1 : (a : Int) + 1 - 1 = (a : Int) := by omega
        obtain ⟨q1, hq1⟩ : ∃ q1, decide (x = 1) = q1 := ⟨_, rfl⟩
        have hq2 : ((x : Int) == 1) = q1 := by rw [← hq1, Bool.eq_iff_iff]; simp; omega
        have Hq1 := Lib.hid hq1
        clear hq1
        go_enter Try.func84, Try.ntmps84
        go_wp2_with (go_at_call 125; refine (Hoff.out).mono ?_; rintro e w1 ⟨rfl, rfl⟩)
        go_quiet (fail)
        go_wp2
        go_quiet (fail)
        go_wp2
        go_quiet (fail)
        go_wp2
        go_ret
        exact ⟨q1, a + 1, 0, by rw [Hfl.out, if_neg hx1, Hq1.out], rfl, by rw [← H0.out]; first | exact moved_set1n H.out _ _ _ (by simp) | exact moved_set1m H.out _ _ _ _ (by simp)⟩
    · have hfl : Form.flg b a e = (false, a, 4) := by
        unfold Form.flg; rw [if_neg (by simp [h0]), List.getElem?_eq_none (by omega)]
      have hne : decide ((a : Int) = (b.length : Int)) = true := by simp; omega
      have hne' : ((a : Int) == (b.length : Int)) = true := by simp; omega
      have Hfl := Lib.hid hfl
      clear hfl h0
      go_enter Try.func84, Try.ntmps84
      go_wp2_with (go_at_call 125; refine (Hoff.out).mono ?_; rintro e w1 ⟨rfl, rfl⟩)
      go_quiet (fail)
      go_wp2
      go_ret
      exact ⟨false, a, 4, Hfl.out, rfl, moved_set2 H.out (drewN_same _ _) _⟩
  · have hd : decide (e ≠ 0) = true := by simp [h0]
    have H0 := Lib.hid h0
    clear h0
    go_enter Try.func84, Try.ntmps84
    go_wp2_with (go_at_call 125; refine (Hoff.out).mono ?_; rintro e w1 ⟨rfl, rfl⟩)
    go_ret
    exact ⟨false, a, e, by unfold Form.flg; rw [if_pos H0.out], rfl, H.out, World.grownBy.refl _ _⟩
end Go.Proofs.Yteellfgiejnigaa
/- Walk of the reader's Text. -/
namespace Go.Proofs.Yteellfgiejnigaa
open Go.ChangeShapes Go.WideShapes Go.ChangeAt Go.RowKit
set_option linter.unusedVariables false
theorem RdB.cut {w : World} {p : Option Addr} {c : Nat} {l : List UInt8} (h : RdB w (.slice p l.length c) l) (a n : Nat) (ha : a + n ≤ l.length) : RdB w (.slice (if c = a then p else p.map (·.add (a * 1))) n (c - a)) ((l.drop a).take n) := by
  obtain ⟨p', c', e, hp⟩ := h
  cases e
  exact ⟨_, _, by rw [List.length_take, List.length_drop, Nat.min_eq_left (by omega)], (hp.drop a (by omega)).take n⟩

theorem RdB.cap_le {w : World} {p : Option Addr} {n c : Nat} {l : List UInt8} (h : RdB w (.slice p n c) l) : n ≤ c ∧ n = l.length := by
  obtain ⟨p', c', e, hp⟩ := h
  cases e
  exact ⟨hp.2.1, rfl⟩

/-- The bytes from k to s, taken out of a slice: the run, and what it gives. -/
theorem slice_mid (w : World) (p : Option Addr) (c : Nat) (l : List UInt8) (k n s : Nat) (h : RdB w (.slice p l.length c) l) (hs : k + n = s) (hl : s ≤ l.length) :
    ∃ q d, (∀ W, (Instr.sliceAt 29 (.slice p l.length c) (some (.int .i64 (k : Int))) (some (.int .i64 (s : Int))) none).run Try.prog W = .ok (.slice q n d) W) ∧ RdB w (.slice q n d) ((l.drop k).take n) ∧ (∀ x, Off (.slice p l.length c) x → Off (.slice q n d) x) := by
  refine ⟨_, _, fun W => ?_, h.cut k n (by omega), ?_⟩
  · have := run_slice_lohi (P := Try.prog) 29 5 Try.underlying29 1 (show (Try.prog.info? 5).map (·.size) = some 1 by kernel_rfl) p l.length c k s (by omega) (by have := h.cap_le.1; omega) W
    rw [show s - k = n by omega] at this
    exact this
  · intro x hx a' n' c' e hn
    simp only [Value.slice.injEq] at e
    obtain ⟨e, hn', _⟩ := e
    have hn2 : l.length ≠ 0 := by omega
    split at e
    · subst e; exact hx _ _ _ rfl hn2
    · cases p with
      | none => cases e
      | some y => cases e; have := hx y _ _ rfl hn2; show (y.add (k * 1)).block ≠ x; unfold Addr.add; split <;> exact this
theorem txt_ways (b : List UInt8) (a n cnt f : Nat) (ha : a ≤ b.length) (hl : b.length ≤ 1000000) (h : Form.rd 0 0 (b.drop a) = (n, cnt, f)) :
    (f = 0 ∧ ∃ k m s : Nat, (if f = 0 then a + cnt else 0) = k ∧ k ≤ b.length ∧ (b.length : Int) - (k : Int) = (m : Int) ∧ m ≤ 1000000 ∧ IntKind.u64.wrap (m : Int) = (m : Int) ∧ (k : Int) + (n : Int) = (s : Int) ∧ Hid (k = a + cnt ∧ m = b.length - k ∧ s = k + n)) ∨
    (∃ k, (if f = 0 then a + cnt else 0) = k ∧ ((f : Int) != 0) = true ∧ Hid (f ≠ 0)) := by
  rcases Nat.eq_zero_or_pos f with hf | hf
  · have h1 := (Form.rd_cnt (b.drop a) 0 0).1
    rw [h, List.length_drop] at h1
    simp only at h1
    refine .inl ⟨hf, a + cnt, b.length - (a + cnt), a + cnt + n, by rw [if_pos hf], by omega, by omega, by omega, IntWalk.u64_in _ (by omega), by omega, Lib.hid ⟨rfl, rfl, rfl⟩⟩
  · exact .inr ⟨_, rfl, by simp; omega, Lib.hid (by omega)⟩

theorem below_grown' {x y : World} {row : Option Nat} (h : Below x.heap.size x y) : x.grownBy y row := ⟨h.os, h.tape, h.output, h.size, fun k hk _ => h.block k hk⟩
set_option maxRecDepth 100000 in
set_option maxHeartbeats 1600000 in
theorem rtext_w (g : Nat) (v : Value) (b : List UInt8) (a : Nat) (e most : Int) (w : World) (h : Rdr w g v a e) (hb : RdB w v b) (ha : a ≤ b.length) (hl : b.length ≤ 1000000) (ho : Off v g) (hm : -9223372036854775808 ≤ most ∧ most ≤ 9223372036854775807) :
    Calls Try.prog 85 #[.pointer (some ⟨g, 0, none⟩), .int .i64 most] w fun r w' => ∃ (t : List UInt8) (a' : Nat) (e' : Int) (p : Option Addr) (k c : Nat), Form.txt b a e most = (t, a', e') ∧ r = .returned (.slice p k c) ∧ k = t.length ∧ OB w' w.heap.size 5 (.slice p k c) t ∧ Moved w w' g v a' e' := by
  have Hoff := Lib.hid (off_w g v a e w h)
  have Hrd := Lib.hid (rd_w g v b a e w h hb ha hl)
  have H := Lib.hid h
  have Hb := Lib.hid hb
  obtain ⟨p, c, rfl, hp⟩ := hb
  clear h hp
  by_cases h0 : e = 0
  · have hd : decide (e ≠ 0) = false := by simp [h0]
    have H0 := Lib.hid h0
    clear h0
    obtain ⟨M, hM⟩ : ∃ M, most.toNat = M := ⟨_, rfl⟩
    have hmx : max most 0 = (M : Int) := by omega
    have hmx2 : (if most < 0 then 0 else most) = (M : Int) := by split <;> omega
    have hMw : IntKind.u64.wrap (M : Int) = (M : Int) := IntWalk.u64_in _ (by omega)
    have HM := Lib.hid hM
    clear hM
    go_enter Try.func85, Try.ntmps85
    go_wp2_with (first
      | (go_at_call 125; refine (Hoff.out).mono ?_; rintro e w1 ⟨rfl, hw⟩; have hw2 := hw.symm; clear hw; cases hw2)
      | (
        go_at_call 126
        refine (Hrd.out).mono ?_
        rintro e w1 ⟨hS, n, cnt, f, hrd, rfl⟩
        have HS := Lib.hid hS
        have hf1 := (H.out.same hS).frozen 1
        have hf2 := (H.out.same hS).frozen 2
        have hc0 := (H.out.same hS).cell0
        have hc1 := (H.out.same hS).cell1
        have hc2 := (H.out.same hS).cell2
        have Hrd2 := Lib.hid hrd
        have hw := txt_ways b a n cnt f ha hl hrd
        clear hS hrd
        rcases hw with ⟨hf, k, m, s, hk, hkb, e1, hmb, e2, e3, Hk⟩ | ⟨k, hk, hfb, Hf⟩
        all_goals rw [hk]
        all_goals clear hk
        all_goals try subst hf))
    · go_ret
      have hmn : M < n := by assumption
      exact ⟨[], a, 3, _, _, _, by unfold Form.txt; rw [if_neg (by simp [H0.out]), Hrd2.out]; simp only [ne_eq, not_true_eq_false, if_false]; rw [HM.out, if_pos hmn], rfl, rfl, OB.nil _ _ _, moved_set2 H.out HS.out _⟩
    · go_ret
      have hmn : ¬ M < n := by assumption
      have hmn2 : m < n := by assumption
      exact ⟨[], a, 4, _, _, _, by unfold Form.txt; rw [if_neg (by simp [H0.out]), Hrd2.out]; simp only [ne_eq, not_true_eq_false, if_false]; rw [HM.out, if_neg hmn, if_pos (by have := Hk.out; omega)], rfl, rfl, OB.nil _ _ _, moved_set2 H.out HS.out _⟩
    · have hmn : ¬ M < n := by assumption
      have hmn2 : ¬ m < n := by assumption
      have Hr1 := Lib.hid (moved_set1n H.out s 0 _ rfl)
      have Hr0 := Lib.hid ((H.out.same HS.out).set1 s)
      have Hbw := Lib.hid (RdB.grown ((Hb.out.keeps (.of_heap HS.out.heap))) (Lib.grownBy_setCell w1 g 1 (.int .i64 (s : Int))) ho)
      obtain ⟨q, d, hsl, hrq, hoq⟩ := slice_mid _ p c b k n s Hbw.out (by have := Hk.out; omega) (by have := Hk.out; omega)
      have Hrq := Lib.hid hrq
      have Hgr := Lib.hid ((same_grown HS.out (some g)).trans (Lib.grownBy_setCell w1 g 1 (.int .i64 (s : Int))))
      have hg1 := H.out.lt
      have hsz1 : w.heap.size ≤ w1.heap.size := by have := HS.out.heap; rw [this]; exact Nat.le_refl _
      clear hrq hoq hf1 hf2 hc0 hc1 hc2
      generalize hW0 : w1.setCell ⟨g, 1, none⟩ (.int .i64 (s : Int)) = W0 at *
      have hszW : W0.heap.size = w1.heap.size := by rw [← hW0]; simp
      have HW0 := Lib.hid hszW
      clear hW0 hszW
      have Hc0 := Lib.hid (Hr0.out.cell0)
      have Hc1 := Lib.hid (Hr0.out.cell1)
      have Hgl := Lib.hid (Hr0.out.lt)
      apply RegT.wp_region_T rfl 61 11 rfl (by kernel_rfl) RegT.Grow RegT.Grow.refl RegT.Grow.trans
      · apply RegT.T_pred rfl rfl rfl (fun v x => OB x W0.heap.size 5 v []) (fun _ _ h => h) (fun v x y hR h => OB.keeps h hR.block)
        · intro W hR _
          have HR := Lib.hid hR
          clear hR
          go_simp
          exact RegT.OpOK_value ⟨ownsRow_mono_base (OB.new W 5) HR.out.size, (Below.refl _ _).alloc (Nat.le_refl _) _⟩
        intro v0
        simp only [List.set_cons_succ, List.set_cons_zero, Nat.reduceAdd]
        iterate 10
          apply RegT.T_pure rfl rfl rfl
          · intro W hR
            have hx0 : W.cell? ⟨g, 0, none⟩ = _ := (hR.cell (p := ⟨g, 0, none⟩) Hgl.out).trans Hc0.out
            have hx1 : W.cell? ⟨g, 1, none⟩ = _ := (hR.cell (p := ⟨g, 1, none⟩) Hgl.out).trans Hc1.out
            clear hR
            go_simp; rfl
          simp only [List.set_cons_succ, List.set_cons_zero, Nat.reduceAdd]
        refine RegT.T_tail (fun W hR hf => ?_)
        have Hv0 := Lib.hid (show OB W W0.heap.size 5 v0 [] from hf _ (.head _) (.inl rfl))
        have HR := Lib.hid hR
        clear hR hf
        have Hqw := Lib.hid (Hrq.out.keeps (show Keeps W0 W from HR.out.block))
        have hlt : ((b.drop k).take n).length ≤ 1000000 := by rw [List.length_take, List.length_drop]; omega
        generalize hT : (b.drop k).take n = T at *
        have HT := Lib.hid hT
        clear hT
        simp only [List.drop_succ_cons, List.drop_zero]
        go_wp2_with (at_builtin; go_loud (refine wpList_append_bytes rfl (.tmp 49) (.tmp 59) 29 rfl hel rfl Hv0.out rfl Hqw.out (by simp; omega) HR.out.size ?_; intro p1 n1 c1 w2 hn1 ho1 hg1; have Hn1 := Lib.hid hn1; have Ho1 := Lib.hid ho1; have Hg1 := Lib.hid (Below.trans (Below.trans (Below.refl W0.heap.size W0).drew HR.out) (below_own Hv0.out hg1 HR.out.size)); clear hn1 ho1 hg1))
        go_ret
        have hfin : Form.txt b a e most = (T, s, 0) := by
          have h1 := Hk.out
          unfold Form.txt; rw [if_neg (by simp [H0.out]), Hrd2.out]; simp only [ne_eq, not_true_eq_false, if_false]
          rw [HM.out, if_neg hmn, if_neg (by omega), ← HT.out, ← h1.1, h1.2.2]
        refine ⟨T, s, 0, p1, n1, c1, hfin, rfl, Hn1.out, ?_, ?_, ?_⟩
        · exact ownsRow_mono_base Ho1.out (by rw [HW0.out]; exact hsz1)
        · have := Hr0.out
          rw [H0.out] at this
          unfold Rdr at this ⊢
          rw [← this]
          exact Hg1.out.block g (by rw [HW0.out]; have := HS.out.heap; rw [this]; exact hg1)
        · exact Hgr.out.trans (below_grown' Hg1.out)
      · rfl
      · kernel_rfl
    · go_ret
      exact ⟨[], a, (f : Int), _, _, _, by unfold Form.txt; rw [if_neg (by simp [H0.out]), Hrd2.out]; rw [if_pos (Hf.out)], rfl, rfl, OB.nil _ _ _, moved_set2 H.out HS.out _⟩
  · have hd : decide (e ≠ 0) = true := by simp [h0]
    go_enter Try.func85, Try.ntmps85
    have H0 := Lib.hid h0
    clear h0
    go_wp2_with (first
      | (go_at_call 125; refine (Hoff.out).mono ?_; rintro e w1 ⟨rfl, rfl⟩))
    go_ret
    exact ⟨[], a, e, _, _, _, by unfold Form.txt; rw [if_pos H0.out], rfl, rfl, OB.nil _ _ _, H.out, World.grownBy.refl _ _⟩
end Go.Proofs.Yteellfgiejnigaa
/- Walks of the document's reader: Small, Nat, Int, Flag, Text, Fail, Done. -/
namespace Go.Proofs.Yteellfgiejnigaa
open Go.ChangeShapes Go.WideShapes Go.ChangeAt Go.RowKit
set_option linter.unusedVariables false
/-- The document's reader at block g stands at place a of these bytes, which lie below block N, with this fault. -/
def RAt (w : World) (g : Nat) (T : TypeId) (b : List UInt8) (a : Nat) (e : Int) (N : Nat) : Prop := ∃ v, RRd w g T v e ∧ RdB w v (b.drop a) ∧ ∀ x, N ≤ x → Off v x
theorem RAt.keeps {w w' : World} {g : Nat} {T : TypeId} {b : List UInt8} {a : Nat} {e : Int} {N : Nat} (h : RAt w g T b a e N) (hk : Keeps w w') : RAt w' g T b a e N := by
  obtain ⟨v, h1, h2, h3⟩ := h
  exact ⟨v, by unfold RRd at *; rw [hk g (Array.getElem?_eq_some_iff.1 h1).1]; exact h1, h2.keeps hk, h3⟩
theorem RAt.kept {w w' : World} {g : Nat} {T : TypeId} {b : List UInt8} {a : Nat} {e : Int} {N x : Nat} (h : RAt w g T b a e N) (hg : w.grownBy w' (some x)) (hx : N ≤ x) (hne : g ≠ x) : RAt w' g T b a e N := by
  obtain ⟨v, h1, h2, h3⟩ := h
  exact ⟨v, by unfold RRd at *; rw [hg.block g (Array.getElem?_eq_some_iff.1 h1).1 (by simpa using hne)]; exact h1, h2.grown hg (h3 x hx), h3⟩
/-- It has moved; all else is as it was. -/
structure RM (w w' : World) (g : Nat) (T : TypeId) (b : List UInt8) (a : Nat) (e : Int) (N : Nat) : Prop where
  at_ : RAt w' g T b a e N
  grown : w.grownBy w' (some g)
theorem RM.fail {w : World} {g : Nat} {T : TypeId} {v : Value} {b : List UInt8} {a : Nat} {e : Int} {N : Nat} (h : RRd w g T v e) (hb : RdB w v (b.drop a)) (ho : ∀ x, N ≤ x → Off v x) (hg : N ≤ g) (e' : Int) : RM w (w.setCell ⟨g, 1, none⟩ (.int .i64 e')) g T b a e' N :=
  ⟨⟨v, h.set1 e', hb.grown (Lib.grownBy_setCell w g 1 _) (ho g hg), ho⟩, Lib.grownBy_setCell w g 1 _⟩
theorem RM.refl {w : World} {g : Nat} {T : TypeId} {b : List UInt8} {a : Nat} {e : Int} {N : Nat} (h : RAt w g T b a e N) : RM w w g T b a e N := ⟨h, World.grownBy.refl _ _⟩

end Go.Proofs.Yteellfgiejnigaa
/- Walk of the document's Text. -/
namespace Go.Proofs.Yteellfgiejnigaa
open Go.ChangeShapes Go.WideShapes Go.ChangeAt Go.RowKit
set_option linter.unusedVariables false
theorem RRd.keeps {w w' : World} {g : Nat} {T : TypeId} {v : Value} {e : Int} (h : RRd w g T v e) (hk : Keeps w w') : RRd w' g T v e := by
  unfold RRd at *
  rw [hk g (Array.getElem?_eq_some_iff.1 h).1]; exact h
end Go.Proofs.Yteellfgiejnigaa
