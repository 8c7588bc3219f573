/- Walks of the document's reader: Small, Nat, Int, Flag, Text, Fail, Done. -/
import Derived.Test.YtpbdnndpdidagaaW16
namespace Go.Proofs.Ytpbdnndpdidagaa
open Go.ChangeShapes Go.WideShapes Go.ChangeAt Go.RowKit
set_option linter.unusedVariables false

/-- The document's reader at block g stands at place a of these bytes, which lie below block N, with this fault. -/
def RAt (w : World) (g : Nat) (T : TypeId) (b : List UInt8) (a : Nat) (e : Int) (N : Nat) : Prop := ∃ v, RRd w g T v e ∧ RdB w v (b.drop a) ∧ ∀ x, N ≤ x → Off v x
theorem RAt.keeps {w w' : World} {g : Nat} {T : TypeId} {b : List UInt8} {a : Nat} {e : Int} {N : Nat} (h : RAt w g T b a e N) (hk : Keeps w w') : RAt w' g T b a e N := by
  obtain ⟨v, h1, h2, h3⟩ := h
  exact ⟨v, by unfold RRd at *; rw [hk g (Array.getElem?_eq_some_iff.1 h1).1]; exact h1, h2.keeps hk, h3⟩
theorem RAt.kept {w w' : World} {g : Nat} {T : TypeId} {b : List UInt8} {a : Nat} {e : Int} {N x : Nat} (h : RAt w g T b a e N) (hg : w.grownBy w' (some x)) (hx : N ≤ x) (hne : g ≠ x) : RAt w' g T b a e N := by
  obtain ⟨v, h1, h2, h3⟩ := h
  exact ⟨v, by unfold RRd at *; rw [hg.block g (Array.getElem?_eq_some_iff.1 h1).1 (by simpa using hne)]; exact h1, h2.grown hg (h3 x hx), h3⟩
/-- It has moved; all else is as it was. -/
structure RM (w w' : World) (g : Nat) (T : TypeId) (b : List UInt8) (a : Nat) (e : Int) (N : Nat) : Prop where
  at_ : RAt w' g T b a e N
  grown : w.grownBy w' (some g)
theorem RM.fail {w : World} {g : Nat} {T : TypeId} {v : Value} {b : List UInt8} {a : Nat} {e : Int} {N : Nat} (h : RRd w g T v e) (hb : RdB w v (b.drop a)) (ho : ∀ x, N ≤ x → Off v x) (hg : N ≤ g) (e' : Int) : RM w (w.setCell ⟨g, 1, none⟩ (.int .i64 e')) g T b a e' N :=
  ⟨⟨v, h.set1 e', hb.grown (Lib.grownBy_setCell w g 1 _) (ho g hg), ho⟩, Lib.grownBy_setCell w g 1 _⟩
theorem RM.go {w : World} {g : Nat} {T : TypeId} {v v' : Value} {b : List UInt8} {a' : Nat} {e : Int} {N : Nat} (h : RRd w g T v e) (hb : RdB w v' (b.drop a')) (ho : ∀ x, N ≤ x → Off v' x) (hg : N ≤ g) : RM w (w.setCell ⟨g, 0, none⟩ v') g T b a' e N :=
  ⟨⟨v', h.set0 v', hb.grown (Lib.grownBy_setCell w g 0 _) (ho g hg), ho⟩, Lib.grownBy_setCell w g 0 _⟩
theorem RM.refl {w : World} {g : Nat} {T : TypeId} {b : List UInt8} {a : Nat} {e : Int} {N : Nat} (h : RAt w g T b a e N) : RM w w g T b a e N := ⟨h, World.grownBy.refl _ _⟩

set_option maxRecDepth 100000 in
set_option maxHeartbeats 800000 in
theorem refsmall_w (g : Nat) (T : TypeId) (b : List UInt8) (a : Nat) (e : Int) (N most : Nat) (w : World) (h : RAt w g T b a e N) (hg : N ≤ g) (ha : a ≤ b.length) (hl : b.length ≤ 1000000) (hm : most < 2 ^ 64) :
    Calls Try.prog 38 #[.pointer (some ⟨g, 0, none⟩), .int .u64 (most : Int)] w fun r w' => ∃ n a' : Nat, ∃ e' : Int, Form.small b a e most = (n, a', e') ∧ r = .returned (.int .u64 (n : Int)) ∧ RM w w' g T b a' e' N := by
  have H := Lib.hid h
  obtain ⟨v, hr, hb, ho⟩ := h
  have Hr := Lib.hid hr
  have hdl : (b.drop a).length ≤ 1000000 := by rw [List.length_drop]; omega
  have Hrd := Lib.hid (refrd_w g T v e (b.drop a) w hr hb hdl)
  have hc0 := hr.cell0
  have hc1 := hr.cell1
  have hf0 := hr.frozen 0
  have hf1 := hr.frozen 1
  have Hb := Lib.hid hb
  have Ho := Lib.hid ho
  have Hdd := Lib.hid (fun k => (List.drop_drop (i := k) (j := a) (l := b)))
  by_cases h0 : e = 0
  · have hsm : Form.small b a e most = if (Form.rd 0 0 (b.drop a)).2.2 = 0 then (if most < (Form.rd 0 0 (b.drop a)).1 then (0, a, 5) else ((Form.rd 0 0 (b.drop a)).1, a + (Form.rd 0 0 (b.drop a)).2.1, 0)) else (0, a, (((Form.rd 0 0 (b.drop a)).2.2 : Nat) : Int)) := by
      unfold Form.small; rw [if_neg (by simp [h0])]
    have Hsm := Lib.hid hsm
    obtain ⟨p, c, rfl, hp⟩ := hb
    have hcnt := (Form.rd_cnt (b.drop a) 0 0).1
    generalize hd : b.drop a = d at *
    have Hd := Lib.hid hd
    have H0 := Lib.hid h0
    subst h0
    clear hsm hp ho hr hd
    go_enter Try.func38, Try.ntmps38
    go_wp2_with (
      go_at_call 62
      refine (Hrd.out).mono ?_
      rintro r w1 ⟨rfl, n, cnt, f, hrd, rfl⟩
      rw [hrd] at hcnt
      obtain ⟨q, c2, hsl, hrq, hoq⟩ := slice_from w p c d cnt Hb.out (by simpa using hcnt)
      have Hrq := Lib.hid hrq
      have Hoq := Lib.hid hoq
      have Hrd2 := Lib.hid hrd
      clear hrd hcnt hrq hoq)
    all_goals go_ret
    · refine ⟨0, a, 5, ?_, rfl, ?_⟩
      · rw [Hsm.out, Hrd2.out, if_pos (by assumption), if_pos (by assumption)]
      · exact RM.fail Hr.out (Hd.out ▸ Hb.out) Ho.out hg _
    · refine ⟨n, a + cnt, 0, ?_, rfl, ?_⟩
      · rw [Hsm.out, Hrd2.out, if_pos (by assumption), if_neg (by omega)]
      · refine RM.go Hr.out ?_ (fun x hx => Hoq.out x (Ho.out x hx)) hg
        have := Hdd.out cnt
        rw [← this]; exact Hrq.out
    · refine ⟨0, a, (f : Int), ?_, rfl, ?_⟩
      · rw [Hsm.out, Hrd2.out, if_neg (by assumption)]
      · exact RM.fail Hr.out (Hd.out ▸ Hb.out) Ho.out hg _
  · have hd : decide (e = 0) = false := by simp [h0]
    have hd2 : (e != 0) = true := by simp [h0]
    have H0 := Lib.hid h0
    clear h0 hb ho hr
    go_enter Try.func38, Try.ntmps38
    go_wp2
    go_ret
    exact ⟨0, a, e, by unfold Form.small; rw [if_pos H0.out], rfl, RM.refl H.out⟩

set_option maxRecDepth 100000 in
theorem refrnat_w (g : Nat) (T : TypeId) (b : List UInt8) (a : Nat) (e : Int) (N : Nat) (w : World) (h : RAt w g T b a e N) (hg : N ≤ g) (ha : a ≤ b.length) (hl : b.length ≤ 1000000) :
    Calls Try.prog 36 #[.pointer (some ⟨g, 0, none⟩)] w fun r w' => ∃ n a' : Nat, ∃ e' : Int, Form.small b a e 18446744073709551615 = (n, a', e') ∧ r = .returned (.int .u64 (n : Int)) ∧ RM w w' g T b a' e' N := by
  have H := Lib.hid (refsmall_w g T b a e N 18446744073709551615 w h hg ha hl (by decide))
  clear h
  go_enter Try.func36, Try.ntmps36
  go_wp2_with (go_at_call 38; refine (H.out).mono ?_; rintro r w1 ⟨n, a', e', h1, rfl, h2⟩; have Hfin := Lib.hid (And.intro h1 h2); clear h1 h2)
  go_ret
  exact ⟨n, a', e', Hfin.out.1, rfl, Hfin.out.2⟩

theorem unfold_ways2 (n : Nat) (hn : n < 2 ^ 64) : ∃ q : Nat, (n : Int) / 2 = (q : Int) ∧ q < 2 ^ 63 ∧ IntKind.i64.wrap (q : Int) = (q : Int) ∧
    (((n : Int) % 2 = 0 ∧ (q : Int) = Form.unfold_ n) ∨ ((n : Int) % 2 = 1 ∧ IntKind.i64.wrap (-(q : Int)) = -(q : Int) ∧ IntKind.i64.wrap (-(q : Int) - 1) = Form.unfold_ n ∧ -(q : Int) - 1 = Form.unfold_ n)) := by
  refine ⟨n / 2, by omega, by omega, IntWalk.i64_in _ (by omega), ?_⟩
  unfold Form.unfold_
  by_cases h : n % 2 = 0
  · left; rw [if_pos h]; exact ⟨by omega, rfl⟩
  · right; rw [if_neg h]; exact ⟨by omega, IntWalk.i64_in _ (by omega), IntWalk.i64_in _ (by omega), rfl⟩

set_option maxRecDepth 100000 in
theorem refrint_w (g : Nat) (T : TypeId) (b : List UInt8) (a : Nat) (e : Int) (N : Nat) (w : World) (h : RAt w g T b a e N) (hg : N ≤ g) (ha : a ≤ b.length) (hl : b.length ≤ 1000000) :
    Calls Try.prog 39 #[.pointer (some ⟨g, 0, none⟩)] w fun r w' => ∃ n a' : Nat, ∃ e' : Int, Form.small b a e 18446744073709551615 = (n, a', e') ∧ r = .returned (.int .i64 (Form.unfold_ n)) ∧ RM w w' g T b a' e' N := by
  have H := Lib.hid (refrnat_w g T b a e N w h hg ha hl)
  have Ha := Lib.hid ha
  clear h
  go_enter Try.func39, Try.ntmps39
  go_wp2_with (
    go_at_call 36
    refine (H.out).mono ?_
    rintro r w1 ⟨n, a', e', h1, rfl, h2⟩
    have hw := unfold_ways2 n (Form.small_le h1 Ha.out).2.2
    have Hfin := Lib.hid (And.intro h1 h2)
    clear h1 h2
    obtain ⟨q, e1, eq, e2, hw⟩ := hw
    obtain ⟨u, hu⟩ : ∃ u, Form.unfold_ n = u := ⟨_, rfl⟩
    rw [hu] at hw
    have Hu := Lib.hid hu
    clear hu
    rcases hw with ⟨e3, e4⟩ | ⟨e3, e4, e5, e6⟩)
  all_goals go_ret
  all_goals exact ⟨n, a', e', Hfin.out.1, by rw [Hu.out]; rfl, Hfin.out.2⟩

set_option maxRecDepth 100000 in
theorem refrfail_w (g : Nat) (T : TypeId) (b : List UInt8) (a : Nat) (e m : Int) (N : Nat) (w : World) (h : RAt w g T b a e N) (hg : N ≤ g) :
    Calls Try.prog 44 #[.pointer (some ⟨g, 0, none⟩), .int .i64 m] w fun r w' => r = .returned (.tuple #[]) ∧ RM w w' g T b a (if e = 0 then m else e) N := by
  have H := Lib.hid h
  obtain ⟨v, hr, hb, ho⟩ := h
  have Hr := Lib.hid hr
  have hc1 := hr.cell1
  have hf1 := hr.frozen 1
  have Hb := Lib.hid hb
  have Ho := Lib.hid ho
  clear hr hb ho
  by_cases h0 : e = 0
  · subst h0
    go_enter Try.func44, Try.ntmps44
    go_wp2
    go_end0
    refine ⟨rfl, ?_⟩
    exact RM.fail Hr.out Hb.out Ho.out hg _
  · have hd : decide (e = 0) = false := by simp [h0]
    have hd2 : (e == 0) = false := by simp [h0]
    have H0 := Lib.hid h0
    clear h0
    go_enter Try.func44, Try.ntmps44
    go_wp2
    go_end0
    refine ⟨rfl, ?_⟩
    exact RM.refl H.out

set_option maxRecDepth 100000 in
theorem refrdone_w (g : Nat) (T : TypeId) (b : List UInt8) (a : Nat) (e : Int) (N : Nat) (w : World) (h : RAt w g T b a e N) (ha : a ≤ b.length) (hl : b.length ≤ 1000000) :
    Calls Try.prog 45 #[.pointer (some ⟨g, 0, none⟩)] w fun r w' => r = .returned (.int .i64 (Form.done b.length a e)) ∧ w = w' := by
  obtain ⟨v, hr, hb, ho⟩ := h
  have hc0 := hr.cell0
  have hc1 := hr.cell1
  have hdl := List.length_drop (i := a) (l := b)
  obtain ⟨p, c, rfl, hp⟩ := hb
  clear hr ho hp
  generalize (b.drop a).length = m at *
  have hmm : m ≤ 1000000 := by omega
  by_cases h0 : e = 0
  · subst h0
    by_cases h1 : a < b.length
    · have hd : Form.done b.length a 0 = 5 := by unfold Form.done; rw [if_pos ⟨rfl, h1⟩]
      have hm0 : 0 < m := by omega
      rw [hd]
      clear hdl hd
      go_enter Try.func45, Try.ntmps45
      go_wp2
      go_ret
      exact ⟨rfl, rfl⟩
    · have hd : Form.done b.length a 0 = 0 := by unfold Form.done; rw [if_neg (fun h => h1 h.2)]
      have hm0 : m = 0 := by omega
      subst hm0
      rw [hd]
      clear hdl hd
      go_enter Try.func45, Try.ntmps45
      go_wp2
      go_ret
      exact ⟨rfl, rfl⟩
  · have hd : Form.done b.length a e = e := by unfold Form.done; rw [if_neg (fun h => h0 h.1)]
    have hd1 : decide (e = 0) = false := by simp [h0]
    have hd2 : (e == 0) = false := by simp [h0]
    rw [hd]
    clear hdl hd h0
    go_enter Try.func45, Try.ntmps45
    go_wp2
    go_ret
    exact ⟨rfl, rfl⟩

/-- What the document's Flag leaves. -/
def RFlg (w : World) (g : Nat) (T : TypeId) (b : List UInt8) (a : Nat) (e : Int) (N : Nat) (r : Ending) (w' : World) : Prop := ∃ (f : Bool) (a' : Nat) (e' : Int), Form.flg b a e = (f, a', e') ∧ r = .returned (.bool f) ∧ RM w w' g T b a' e' N
set_option maxRecDepth 100000 in
set_option maxHeartbeats 800000 in
theorem refrflag_w (g : Nat) (T : TypeId) (b : List UInt8) (a : Nat) (e : Int) (N : Nat) (w : World) (h : RAt w g T b a e N) (hg : N ≤ g) (ha : a ≤ b.length) (hl : b.length ≤ 1000000) :
    Calls Try.prog 41 #[.pointer (some ⟨g, 0, none⟩)] w (RFlg w g T b a e N) := by
  have H := Lib.hid h
  obtain ⟨v, hr, hb, ho⟩ := h
  have Hr := Lib.hid hr
  have hdl := List.length_drop (i := a) (l := b)
  have hc0 := hr.cell0
  have hc1 := hr.cell1
  have hf0 := hr.frozen 0
  have hf1 := hr.frozen 1
  have Hb := Lib.hid hb
  have Ho := Lib.hid ho
  by_cases h0 : e = 0
  · obtain ⟨p, c, rfl, hp⟩ := hb
    have Hp := Lib.hid hp
    clear hr hp ho
    by_cases hlt : a < b.length
    · have hfl : Form.flg b a e = if 1 < (b.getD a 0).toNat then (false, a, 5) else (decide ((b.getD a 0).toNat = 1), a + 1, 0) := by
        unfold Form.flg; rw [if_neg (by simp [h0]), List.getElem?_eq_getElem hlt, getD_of_lt _ _ _ hlt]
      obtain ⟨bq, oq, rfl, hbq, hcq⟩ := Hp.out.at (k := 0) (by omega)
      have hgd : (b.drop a).getD 0 0 = b.getD a 0 := by simp [List.getD]
      rw [hgd, Nat.add_zero] at hcq
      obtain ⟨q, c2, hsl, hrq, hoq⟩ := slice_from w _ c (b.drop a) 1 Hb.out (by omega)
      have hsl' : ∀ W, (Instr.sliceAt 24 (.slice (some ⟨bq, oq, none⟩) (b.drop a).length c) (some (.int .i64 1)) none none).run Try.prog W = .ok (.slice q ((b.drop a).length - 1) c2) W := fun W => hsl W
      clear hsl
      have Hrq := Lib.hid hrq
      have Hoq := Lib.hid hoq
      have Hdd := Lib.hid (List.drop_drop (i := 1) (j := a) (l := b))
      have hx := UInt8.toNat_lt (b.getD a 0)
      have Hfl := Lib.hid hfl
      have H0 := Lib.hid h0
      subst h0
      clear hfl hrq hoq hgd
      generalize (b.getD a 0).toNat = x at *
      generalize hd : b.drop a = d at *
      have Hd := Lib.hid hd
      have hm0 : 0 < d.length := by omega
      have hne : decide ((d.length : Int) = 0) = false := decide_eq_false (by omega)
      have hne2 : ((d.length : Int) == 0) = false := beq_eq_false_iff_ne.2 (by omega)
      clear hd hdl
      by_cases hx1 : 1 < x
      · go_enter Try.func41, Try.ntmps41
        go_wp2
        go_ret
        exact ⟨false, a, 5, by rw [Hfl.out, if_pos hx1], rfl, RM.fail Hr.out (Hd.out ▸ Hb.out) Ho.out hg _⟩
      · obtain ⟨q1, hq1⟩ : ∃ q1, decide (x = 1) = q1 := ⟨_, rfl⟩
        have hq2 : ((x : Int) == 1) = q1 := by rw [← hq1, Bool.eq_iff_iff]; simp; omega
        have Hq1 := Lib.hid hq1
        clear hq1
        go_enter Try.func41, Try.ntmps41
        go_wp2
        go_ret
        exact ⟨q1, a + 1, 0, by rw [Hfl.out, if_neg hx1, Hq1.out], rfl, RM.go Hr.out (by rw [← Hdd.out]; exact Hrq.out) (fun x hx => Hoq.out x (Ho.out x hx)) hg⟩
    · have hfl : Form.flg b a e = (false, a, 4) := by
        unfold Form.flg; rw [if_neg (by simp [h0]), List.getElem?_eq_none (by omega)]
      have Hfl := Lib.hid hfl
      have hm0 : (b.drop a).length = 0 := by omega
      subst h0
      generalize hd : b.drop a = d at *
      have Hd := Lib.hid hd
      rw [hm0] at hc0
      clear hfl hd hdl hm0
      go_enter Try.func41, Try.ntmps41
      go_wp2
      go_ret
      exact ⟨false, a, 4, Hfl.out, rfl, RM.fail Hr.out (Hd.out ▸ Hb.out) Ho.out hg _⟩
  · have hd : decide (e = 0) = false := by simp [h0]
    have hd2 : (e != 0) = true := by simp [h0]
    have H0 := Lib.hid h0
    clear h0 hb ho hr
    go_enter Try.func41, Try.ntmps41
    go_wp2
    go_ret
    exact ⟨false, a, e, by unfold Form.flg; rw [if_pos H0.out], rfl, RM.refl H.out⟩
end Go.Proofs.Ytpbdnndpdidagaa
