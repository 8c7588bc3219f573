/- L4: T21, T23, T24, T25, T26, T27, T28. -/
import Derived.Test.YteellfgiejnigaaL3
import Derived.Test.YteellfgiejnigaaL2
import Derived.Test.YteellfgiejnigaaL1
/- The law of TrackMeets: what is met is there. -/
namespace Go.Proofs.Yteellfgiejnigaa
open Go.ChangeShapes Go.WideShapes Go.ChangeAt Go.RowKit
set_option linter.unusedVariables false

theorem add_all_w (S R : Foot) (g B T : Nat) (v sv : Value) (es ss fs : List Ent) (w : World) (h : TkAt w S g B T v es) (hr : EsR w R sv ss) (hd : ∀ b, b < w.heap.size → R b → S b → False)
    (hn : es.length + ss.length ≤ 1000000) (hl : ∀ e ∈ ss, e.2.length ≤ 1000000) (hB : B ≤ 9223372036854775808) (hf : es ++ ss = fs) :
    Calls Try.prog 27 #[.pointer (some ⟨g, 0, none⟩), sv] w fun r w' => (∃ x, r = .returned x) ∧ ∃ v', TkAt w' (fun b => S b ∨ w.heap.size ≤ b) g B T v' fs ∧ Touch S w w' := by
  have h1 := add_w S R g B T v sv es ss w h hr hd hn hl
  rw [List.take_of_length_le (by omega), hf] at h1
  exact h1
theorem slice_eq_w (S : Foot) (g B T fr : Nat) (most : Int) (v : Value) (es fs : List Ent) (w : World) (h : TkAt w S g B T v es) (hn : es.length ≤ 1000000) (hl : ∀ e ∈ es, e.2.length ≤ 1000000) (hf : fr < 2 ^ 64) (hm : -9223372036854775808 ≤ most ∧ most ≤ 9223372036854775807) (he : sliceR B es fr most = fs) :
    Calls Try.prog 25 #[.pointer (some ⟨g, 0, none⟩), .int .u64 (fr : Int), .int .i64 most] w fun r w' => ∃ u, r = .returned u ∧ EsG w' (fun b => w.heap.size ≤ b) 53 u fs ∧ Below w.heap.size w w' := by
  rw [← he]; exact slice_w S g B T fr most v es w h hn hl hf hm
theorem tip_eq_w (S : Foot) (g B T n : Nat) (v : Value) (es : List Ent) (w : World) (h : TkAt w S g B T v es) (hn : es.length ≤ 1000000) (he : B + es.length = n) :
    Calls Try.prog 23 #[.pointer (some ⟨g, 0, none⟩)] w fun r w' => r = .returned (.tuple #[.int .u64 (n : Int), .int .u64 ((tipT T es : Nat) : Int)]) ∧ Below w.heap.size w w' := by
  rw [← he]; exact tip_w S g B T v es w h hn

set_option maxRecDepth 100000 in
set_option maxHeartbeats 3200000 in
theorem meets_ok_w (B T prev at' keep : Nat) (v1 v2 : Value) (es ss : List Ent) (w : World) (S1 S2 : Foot) (h1 : EsR w S1 v1 es) (h2 : EsR w S2 v2 ss) (hl1 : es.length ≤ 30) (hl2 : ss.length ≤ 30) (k1 : ∀ e ∈ es, e.2.length ≤ 140737488351232) (k2 : ∀ e ∈ ss, e.2.length ≤ 140737488351232)
    (ht : tameR [es, ss] = true) (hb : B ≤ 9223372036854775808) (hp : prev ≤ 9223372036854775808) (hT : T < 2 ^ 64) (hat : at' < 2 ^ 64) (add : List Ent) (hm : meetR B T es prev at' ss = (keep, add, 0)) (law : MeetLaw B T es prev keep ss add) :
    Calls Try.prog 5 #[.int .u64 (B : Int), .int .u64 (T : Int), v1, v2, .int .u64 (prev : Int), .int .u64 (at' : Int)] w fun r w' => r = .returned (.bool true) ∧ Below w.heap.size w w' := by
  obtain ⟨p1, c1, rfl⟩ := h1.len_form
  obtain ⟨p2, c2, rfl⟩ := h2.len_form
  have d1 : decide (30 < (es.length : Int)) = false := by simp; omega
  have d2 : decide (30 < (ss.length : Int)) = false := by simp; omega
  have d3 : decide (9223372036854775808 < (B : Int)) = false := by simp; omega
  have d4 : decide (9223372036854775808 < (prev : Int)) = false := by simp; omega
  have HTm := Lib.hid (tame2_w _ _ es ss w S1 S2 h1 h2 k1 k2)
  have HB1 := Lib.hid (tame2_b w (.slice p1 es.length c1) (.slice p2 ss.length c2))
  rw [ht] at HTm
  have ht5 : osum [es, ss] < 50000 := by unfold tameR at ht; simp only [decide_eq_true_eq] at ht; exact ht.2.2
  have q1 : ∀ e ∈ es, e.2.length ≤ 1000000 := fun e he => by have := le_dsum es e he; simp only [osum] at ht5; omega
  have q2 : ∀ e ∈ ss, e.2.length ≤ 1000000 := fun e he => by have := le_dsum ss e he; simp only [osum] at ht5; omega
  have Hq1 := Lib.hid q1
  have Hq2 := Lib.hid q2
  have H1 := Lib.hid (h1.mono (S' := fun b => b < w.heap.size) fun b hb _ => hb)
  have H2 := Lib.hid (h2.mono (S' := fun b => b < w.heap.size) fun b hb _ => hb)
  have Htk := Lib.hid (show es.take (18446744073709551615 - B) = es from List.take_of_length_le (by omega))
  have HM := Lib.hid hm
  clear h1 h2 k1 k2 ht ht5 q1 q2 hm
  obtain ⟨lo, hi, lat, ltip, lsl, lsub, llen⟩ := law
  have hnl := nowL_len (add := add) hi lo
  have HnowE := Lib.hid (show es.take (keep - B) ++ add = nowL B keep es add from rfl)
  generalize hnow : nowL B keep es add = now at *
  have HA1 := Lib.hid (fun e he => Hq2.out e (lsub e he))
  have hnow30 : now.length ≤ 60 := by rw [← hnow]; unfold nowL; rw [List.length_append, List.length_take]; omega
  have HN1 := Lib.hid (show ∀ e ∈ now, e.2.length ≤ 1000000 from fun e he => by
    rw [← HnowE.out] at he
    rcases List.mem_append.1 he with he | he
    · exact Hq1.out e (List.mem_of_mem_take he)
    · exact HA1.out e he)
  have hmay : mayI B es.length keep = true := by unfold mayI; simp [lo, hi]
  have Hmay := Lib.hid hmay
  obtain ⟨B1, hB1⟩ : ∃ B1, B1 = B + 1 := ⟨_, rfl⟩
  have HB1e := Lib.hid hB1
  have hB1l : B1 < 2 ^ 64 := by omega
  have e1 : IntKind.u64.wrap ((B : Int) + 1) = (B1 : Int) := by rw [IntWalk.u64_in _ (by omega)]; omega
  have Hall := Lib.hid (slice_all (es := es) hB1 (by omega))
  rw [← hB1] at lsl
  obtain ⟨m, hmk⟩ : ∃ m, m = keep - B := ⟨_, rfl⟩
  rw [← hmk] at lsl HnowE
  have hmn : m ≤ es.length := by omega
  have e2 : IntKind.u64.wrap ((keep : Int) - (B : Int)) = (m : Int) := by rw [IntWalk.u64_in _ (by omega)]; omega
  have e3 : IntKind.u64.wrap (es.length : Int) = (es.length : Int) := IntWalk.u64_in _ (by omega)
  have e4 : IntKind.i64.wrap (m : Int) = (m : Int) := IntWalk.i64_in _ (by omega)
  have e5 : IntKind.u64.wrap (ss.length : Int) = (ss.length : Int) := IntWalk.u64_in _ (by omega)
  obtain ⟨L, hL⟩ : ∃ L, L = B + es.length := ⟨_, rfl⟩
  obtain ⟨nw, hnw⟩ : ∃ nw, nw = B + now.length := ⟨_, rfl⟩
  have HL := Lib.hid hL
  have Hnw := Lib.hid hnw
  rw [← hL] at hi ltip
  rw [← hnw] at hnl
  have Hsl := Lib.hid lsl
  have Hat := Lib.hid lat
  have Htip := Lib.hid (show (add.length = 0 ∧ keep = L ∧ nw = L) ∨ (0 < add.length ∧ nw = prev + ss.length) by
    rcases ltip with ⟨h, h2⟩ | ⟨h, h2⟩
    · rw [h] at hnl ⊢; exact .inl ⟨rfl, h2, by simp at hnl; omega⟩
    · exact .inr ⟨h, by omega⟩)
  have f1 : ¬ keep < B := by omega
  have f2 : ¬ L < keep := by omega
  have f3 : ¬ es.length < m := by omega
  have Hm6 := Lib.hid (show keep - B = m from hmk.symm)
  have hsl := fun p c (hc : m ≤ c) x => run_slice_hi_u 28 53 Try.underlying28 2 (by kernel_rfl) p es.length c m hc x
  have Hslice := Lib.hid hsl
  have hm30 : m ≤ 30 := by omega
  clear lat ltip lsl lsub hnl hnow hmay hB1 hmk hL hnw hsl
  go_enter Try.func5, Try.ntmps5
  go_wp2_with (first
    | (go_at_call 21; refine (HTm.out).mono ?_; rintro r w2 ⟨rfl, hB⟩; have HB2 := Lib.hid (HB1.out.trans (hB.mono HB1.out.size)); clear hB HTm HB1)
    | (go_at_call 22; refine (new_w (fun b => b < w.heap.size) B T _ es w2 (by omega) (by omega) (H1.out.keeps HB2.out.block) (by omega) Hq1.out).mono ?_; rintro r w3 ⟨rfl, ⟨v3, ht3⟩, hB⟩; rw [Htk.out] at ht3; have hs2 := HB2.out.size; have hs3 : w2.heap.size < w3.heap.size := ht3.lt; have HT3 := Lib.hid (ht3.mono (S' := fun b => w.heap.size ≤ b ∧ b < w3.heap.size) fun b hlt hb => ⟨Nat.le_trans hs2 hb, hlt⟩); have HB3 := Lib.hid (HB2.out.trans (hB.mono HB2.out.size)); clear hB ht3)
    | (go_at_call 23; refine (tip_eq_w _ _ B T L _ es _ HT3.out (by omega) HL.out.symm).mono ?_; rintro r w4 ⟨rfl, hB⟩; have hs4 := hB.size; have HT4 := Lib.hid (HT3.out.keeps hB.block); have HB4 := Lib.hid (HB3.out.trans (hB.mono HB3.out.size)); clear hB HT3)
    | (go_at_call 24; refine (meet_w _ (fun b => b < w.heap.size) _ B T prev at' _ _ es ss _ HT4.out (H2.out.keeps HB4.out.block) (by omega) (by omega) (by omega) Hq2.out).mono ?_; rintro r w5 ⟨av, rfl, ha, hB⟩; rw [HM.out] at ha ⊢; obtain ⟨p3, c3, rfl⟩ := ha.len_form; have hs5 := hB.size; have HA5 := Lib.hid (ha.mono (S' := fun b => w3.heap.size ≤ b) fun b _ hb => Nat.le_trans hs4 hb); have HT5 := Lib.hid (HT4.out.keeps hB.block); have HB5 := Lib.hid (HB4.out.trans (hB.mono HB4.out.size)); clear hB ha HT4)
    | (go_at_call 25; refine (slice_eq_w _ _ B T B1 100 _ es es _ HT5.out (by omega) Hq1.out (by omega) (by omega) Hall.out).mono ?_; rintro r w6 ⟨u, rfl, hu, hB⟩; obtain ⟨p4, c4, rfl⟩ := hu.form; have hs6 := hB.size; have HU6 := Lib.hid (hu.mono (S' := fun b => w3.heap.size ≤ b) fun b _ hb => Nat.le_trans hs4 (Nat.le_trans hs5 hb)); have HA6 := Lib.hid (HA5.out.keeps hB.block); have HT6 := Lib.hid (HT5.out.keeps hB.block); have HB6 := Lib.hid (HB5.out.trans (hB.mono HB5.out.size)); clear hB hu HT5 HA5)
    | (go_at_call 26; refine (cut_ok_w _ _ B T keep _ es _ HT6.out Hmay.out).mono ?_; rintro r w7 ⟨rfl, ⟨v7, ht7⟩, hto⟩; rw [Hm6.out] at ht7; have hs7 := hto.size; have HT7 := Lib.hid ht7; have HU7 := Lib.hid (HU6.out.touch hto (fun b _ h e => by have h2 : w3.heap.size ≤ b := h; have := e.2; omega)); have HA7 := Lib.hid (HA6.out.touch hto (fun b _ h e => by have h2 : w3.heap.size ≤ b := h; have := e.2; omega)); have HB7 := Lib.hid (HB6.out.trans (hto.below HB6.out.size (fun b e => e.1))); clear ht7 hto HT6 HU6 HA6)
    | (go_at_call 27; refine (add_all_w _ _ _ B T _ _ (es.take m) add now _ HT7.out HA7.out (fun b _ h e => by have h2 : w3.heap.size ≤ b := h; have := e.2; omega) (by rw [List.length_take]; omega) HA1.out (by omega) HnowE.out).mono ?_; rintro r w8 ⟨⟨x8, rfl⟩, v8, ht8, hto⟩; have hs8 := hto.size; have HT8 := Lib.hid ht8; have HU8 := Lib.hid (HU7.out.touch hto (fun b _ h e => by have h2 : w3.heap.size ≤ b := h; have := e.2; omega)); have HB8 := Lib.hid (HB7.out.trans (hto.below HB7.out.size (fun b e => e.1))); clear ht8 hto HT7 HU7 HA7)
    | (go_at_call 23; refine (tip_eq_w _ _ B T nw _ now _ HT8.out (by omega) Hnw.out.symm).mono ?_; rintro r w9 ⟨rfl, hB⟩; have hs9 := hB.size; have HT9 := Lib.hid (HT8.out.keeps hB.block); have HU9 := Lib.hid (HU8.out.keeps hB.block); have HB9 := Lib.hid (HB8.out.trans (hB.mono HB8.out.size)); clear hB HT8 HU8))
  have hsz := HB9.out.size
  go_loopw [22] (fun i wr => ∃ k : Nat, k ≤ ss.length ∧ i = .int .i64 (k : Int) ∧ Hid (TkAt wr (fun b => (w.heap.size ≤ b ∧ b < w3.heap.size) ∨ w7.heap.size ≤ b) w2.heap.size B T v8 now) ∧ Hid (EsG wr (fun b => w3.heap.size ≤ b) 53 (.slice p4 es.length c4) es) ∧ Hid (Below w.heap.size w wr)) (fun i _ => ss.length - (intOf i).toNat)
  case atStart => exact ⟨0, Nat.zero_le _, rfl, HT9, HU9, HB9⟩
  case round =>
    obtain ⟨k, hk, rfl, HT, HU, HB⟩ := hrel
    clear HT9 HU9 HB9
    by_cases hlt : k < ss.length
    · obtain ⟨b, off, c, hv, hcell0⟩ := H2.out.term k hlt
      cases hv
      have hcell := HB.out.cell (p := ⟨b, off + k * 2, none⟩) (block_lt_of_cell hcell0)
      rw [hcell0] at hcell
      have hgk : (ss.getD k (0, [])).1 = ss[k].1 := by rw [getD_of_lt _ _ _ hlt]
      have Hat2 := Lib.hid (Hat.out k hlt)
      rw [hgk] at Hat2
      generalize ss[k].1 = t at *
      obtain ⟨y, hy⟩ : ∃ y, y = prev + k := ⟨_, rfl⟩
      obtain ⟨x, hx⟩ : ∃ x, x = y + 1 := ⟨_, rfl⟩
      have g1 : IntKind.u64.wrap (k : Int) = (k : Int) := IntWalk.u64_in _ (by omega)
      have g2 : IntKind.u64.wrap ((prev : Int) + (k : Int)) = (y : Int) := by rw [IntWalk.u64_in _ (by omega)]; omega
      have g3 : IntKind.u64.wrap ((y : Int) + 1) = (x : Int) := by rw [IntWalk.u64_in _ (by omega)]; omega
      rw [show prev + k + 1 = x by omega] at Hat2
      have hxl : x < 2 ^ 64 := by omega
      have hk30 : k ≤ 30 := by omega
      clear hcell0 hgk hx hy
      by_cases hxB : x ≤ B
      · have g4 : decide ((x : Int) ≤ (B : Int)) = true := by simp; omega
        clear Hat2
        go_wp2
        go_roundw
        case rel => exact ⟨k + 1, by omega, by go_num, HT, HU, HB⟩
        case measure => simp [intOf]; omega
      · have g4 : decide ((x : Int) ≤ (B : Int)) = false := by simp; omega
        have HTm := Lib.hid (termat_w _ _ B T _ now x _ HT.out (by omega) hxl)
        rw [Hat2.out (by omega)] at HTm
        go_wp2_with (go_at_call 28; refine (HTm.out).mono ?_; rintro r w10 ⟨rfl, hB⟩; have hcell := (hB.cell (p := ⟨b, off + k * 2, none⟩) (block_lt_of_cell hcell)).trans hcell; have HT10 := Lib.hid (HT.out.keeps hB.block); have HU10 := Lib.hid (HU.out.keeps hB.block); have HB10 := Lib.hid (HB.out.trans (hB.mono HB.out.size)); clear hB HT HU HB HTm)
        go_roundw
        case rel => exact ⟨k + 1, by omega, by go_num, HT10, HU10, HB10⟩
        case measure => simp [intOf]; omega
    · have hk2 : k = ss.length := by omega
      subst hk2
      have Hcc := Lib.hid (show m ≤ c4 by
        obtain ⟨p', c', xs, e, q, _⟩ := HU.out.rd
        cases e; exact Nat.le_trans hmn q)
      have hsl := Hslice.out p4 c4 Hcc.out
      rcases Htip.out with ⟨ha0, hkL, hnL⟩ | ⟨ha0, hnL⟩
      · generalize add.length = a at *
        subst ha0 hnL
        subst hkL
        go_wp2
        apply RegT.wp_region_T rfl 195 17 rfl (by kernel_rfl) RegT.Grow RegT.Grow.refl RegT.Grow.trans
        · iterate 2
            apply RegT.T_pure rfl rfl rfl
            · intro W hR; go_simp; rfl
            simp only [List.set_cons_succ, List.set_cons_zero, Nat.reduceAdd]
          apply RegT.T_pure (v := .int .u64 (B1 : Int)) rfl rfl rfl
          · intro W hR; clear hR; go_simp
          simp only [List.set_cons_succ, List.set_cons_zero, Nat.reduceAdd]
          iterate 2
            apply RegT.T_pure rfl rfl rfl
            · intro W hR; go_simp; rfl
            simp only [List.set_cons_succ, List.set_cons_zero, Nat.reduceAdd]
          apply RegT.T_pure (v := .int .u64 (m : Int)) rfl rfl rfl
          · intro W hR; clear hR; go_simp
          simp only [List.set_cons_succ, List.set_cons_zero, Nat.reduceAdd]
          apply RegT.T_pure (v := .int .i64 (m : Int)) rfl rfl rfl
          · intro W hR; clear hR; go_simp
          simp only [List.set_cons_succ, List.set_cons_zero, Nat.reduceAdd]
          apply RegT.T_predC rfl rfl rfl 13 (fun y W => EsG W (fun b => w.heap.size ≤ b) 53 y (es.take m)) (fun _ _ h => h) (fun y x z hR h => h.keeps hR.block)
          · intro W hR hf
            have hsz : w.heap.size ≤ W.heap.size := Nat.le_trans HB.out.size hR.size
            have Hc := Lib.hid (slice_eq_w _ _ B T B1 (m : Int) _ now (es.take m) W (HT.out.keeps ((Keeps.refl wr).drew.trans hR.block)) (by omega) HN1.out hB1l (by omega) Hsl.out)
            clear hR hf
            go_simp
            exact RegT.OpOK_enter Hc.out (fun e w' ⟨u, he, hu, hB⟩ => ⟨_, he, hu.mono fun b _ hb => Nat.le_trans hsz hb, hB⟩)
          intro v7
          simp only [List.set_cons_succ, List.set_cons_zero, Nat.reduceAdd]
          iterate 3
            apply RegT.T_pure rfl rfl rfl
            · intro W hR; go_simp; rfl
            simp only [List.set_cons_succ, List.set_cons_zero, Nat.reduceAdd]
          apply RegT.T_pure (v := .int .u64 (m : Int)) rfl rfl rfl
          · intro W hR; clear hR; go_simp
          simp only [List.set_cons_succ, List.set_cons_zero, Nat.reduceAdd]
          apply RegT.T_pure (v := .slice p4 m c4) rfl rfl rfl
          · intro W hR; clear hR; go_simp
          simp only [List.set_cons_succ, List.set_cons_zero, Nat.reduceAdd]
          apply RegT.T_const rfl rfl rfl (.bool true) (fun _ _ h => h)
          · intro W hR hf
            have hy : EsG W (fun b => w.heap.size ≤ b) 53 v7 (es.take m) := hf _ (.head _) (by kernel_rfl) (.inr rfl)
            have Hc := Lib.hid (same_w _ _ _ _ (es.take m) (es.take m) W hy.rd ((HU.out.keeps ((Keeps.refl wr).drew.trans hR.block)).rd.hi hmn) (by rw [List.length_take]; omega))
            rw [decide_eq_true rfl] at Hc
            clear hR hf hy
            go_simp
            exact RegT.OpOK_enter Hc.out (fun e w' h => ⟨_, h.1, rfl, h.2⟩)
          simp only [List.set_cons_succ, List.set_cons_zero, Nat.reduceAdd]
          iterate 1
            apply RegT.T_pure rfl rfl rfl
            · intro W hR; go_simp; rfl
            simp only [List.set_cons_succ, List.set_cons_zero, Nat.reduceAdd]
          apply RegT.T_const rfl rfl rfl (.bool true) (fun _ _ h => h)
          · intro W hR hf
            have Hc := Lib.hid (known24_w W)
            clear hR hf
            go_simp
            exact RegT.OpOK_enter Hc.out (fun e w' h => ⟨_, h.1, rfl, h.2⟩)
          simp only [List.set_cons_succ, List.set_cons_zero, Nat.reduceAdd]
          apply RegT.T_pure (v := .bool true) rfl rfl rfl
          · intro W hR; clear hR; go_simp
          simp only [List.set_cons_succ, List.set_cons_zero, Nat.reduceAdd]
          refine RegT.T_tail (fun W hR hf => ?_)
          have HB2 := Lib.hid (HB.out.trans (((Below.refl _ wr).drew.trans hR).mono HB.out.size))
          clear hR hf
          simp only [List.drop_succ_cons, List.drop_zero]
          go_wp2
          go_ret
          exact ⟨rfl, HB2.out⟩
        · rfl
        · kernel_rfl
      · generalize add.length = a at *
        have g5 : IntKind.u64.wrap ((prev : Int) + (ss.length : Int)) = (nw : Int) := by rw [IntWalk.u64_in _ (by omega)]; omega
        clear hnL
        go_wp2
        apply RegT.wp_region_T rfl 195 17 rfl (by kernel_rfl) RegT.Grow RegT.Grow.refl RegT.Grow.trans
        · iterate 2
            apply RegT.T_pure rfl rfl rfl
            · intro W hR; go_simp; rfl
            simp only [List.set_cons_succ, List.set_cons_zero, Nat.reduceAdd]
          apply RegT.T_pure (v := .int .u64 (B1 : Int)) rfl rfl rfl
          · intro W hR; clear hR; go_simp
          simp only [List.set_cons_succ, List.set_cons_zero, Nat.reduceAdd]
          iterate 2
            apply RegT.T_pure rfl rfl rfl
            · intro W hR; go_simp; rfl
            simp only [List.set_cons_succ, List.set_cons_zero, Nat.reduceAdd]
          apply RegT.T_pure (v := .int .u64 (m : Int)) rfl rfl rfl
          · intro W hR; clear hR; go_simp
          simp only [List.set_cons_succ, List.set_cons_zero, Nat.reduceAdd]
          apply RegT.T_pure (v := .int .i64 (m : Int)) rfl rfl rfl
          · intro W hR; clear hR; go_simp
          simp only [List.set_cons_succ, List.set_cons_zero, Nat.reduceAdd]
          apply RegT.T_predC rfl rfl rfl 13 (fun y W => EsG W (fun b => w.heap.size ≤ b) 53 y (es.take m)) (fun _ _ h => h) (fun y x z hR h => h.keeps hR.block)
          · intro W hR hf
            have hsz : w.heap.size ≤ W.heap.size := Nat.le_trans HB.out.size hR.size
            have Hc := Lib.hid (slice_eq_w _ _ B T B1 (m : Int) _ now (es.take m) W (HT.out.keeps ((Keeps.refl wr).drew.trans hR.block)) (by omega) HN1.out hB1l (by omega) Hsl.out)
            clear hR hf
            go_simp
            exact RegT.OpOK_enter Hc.out (fun e w' ⟨u, he, hu, hB⟩ => ⟨_, he, hu.mono fun b _ hb => Nat.le_trans hsz hb, hB⟩)
          intro v7
          simp only [List.set_cons_succ, List.set_cons_zero, Nat.reduceAdd]
          iterate 3
            apply RegT.T_pure rfl rfl rfl
            · intro W hR; go_simp; rfl
            simp only [List.set_cons_succ, List.set_cons_zero, Nat.reduceAdd]
          apply RegT.T_pure (v := .int .u64 (m : Int)) rfl rfl rfl
          · intro W hR; clear hR; go_simp
          simp only [List.set_cons_succ, List.set_cons_zero, Nat.reduceAdd]
          apply RegT.T_pure (v := .slice p4 m c4) rfl rfl rfl
          · intro W hR; clear hR; go_simp
          simp only [List.set_cons_succ, List.set_cons_zero, Nat.reduceAdd]
          apply RegT.T_const rfl rfl rfl (.bool true) (fun _ _ h => h)
          · intro W hR hf
            have hy : EsG W (fun b => w.heap.size ≤ b) 53 v7 (es.take m) := hf _ (.head _) (by kernel_rfl) (.inr rfl)
            have Hc := Lib.hid (same_w _ _ _ _ (es.take m) (es.take m) W hy.rd ((HU.out.keeps ((Keeps.refl wr).drew.trans hR.block)).rd.hi hmn) (by rw [List.length_take]; omega))
            rw [decide_eq_true rfl] at Hc
            clear hR hf hy
            go_simp
            exact RegT.OpOK_enter Hc.out (fun e w' h => ⟨_, h.1, rfl, h.2⟩)
          simp only [List.set_cons_succ, List.set_cons_zero, Nat.reduceAdd]
          iterate 1
            apply RegT.T_pure rfl rfl rfl
            · intro W hR; go_simp; rfl
            simp only [List.set_cons_succ, List.set_cons_zero, Nat.reduceAdd]
          apply RegT.T_const rfl rfl rfl (.bool true) (fun _ _ h => h)
          · intro W hR hf
            have Hc := Lib.hid (known24_w W)
            clear hR hf
            go_simp
            exact RegT.OpOK_enter Hc.out (fun e w' h => ⟨_, h.1, rfl, h.2⟩)
          simp only [List.set_cons_succ, List.set_cons_zero, Nat.reduceAdd]
          apply RegT.T_pure (v := .bool true) rfl rfl rfl
          · intro W hR; clear hR; go_simp
          simp only [List.set_cons_succ, List.set_cons_zero, Nat.reduceAdd]
          refine RegT.T_tail (fun W hR hf => ?_)
          have HB2 := Lib.hid (HB.out.trans (((Below.refl _ wr).drew.trans hR).mono HB.out.size))
          clear hR hf
          simp only [List.drop_succ_cons, List.drop_zero]
          go_wp2
          go_ret
          exact ⟨rfl, HB2.out⟩
        · rfl
        · kernel_rfl
end Go.Proofs.Yteellfgiejnigaa
/- Writing over entries: rows that may be spoiled, and the walk of spoil. -/
namespace Go.Proofs.Yteellfgiejnigaa
open Go.ChangeShapes Go.WideShapes Go.ChangeAt Go.RowKit
set_option linter.unusedVariables false

/-- n bytes lie here, in S, and may be written. -/
def Bs (w : World) (S : Foot) (d : Value) (n : Nat) : Prop := ∃ p c, d = .slice p n c ∧
  (0 < n → ∃ b off, p = some ⟨b, off, none⟩ ∧ S b ∧ b < w.heap.size ∧ ∀ i, i < n → (∃ x : Nat, x < 256 ∧ w.cell? ⟨b, off + i, none⟩ = some (.int .u8 (x : Int))) ∧ w.frozen? ⟨b, off + i, none⟩ = false)
theorem Bs.of_data {w : World} {S : Foot} {d : Value} {l : List UInt8} (h : DatA w S d l) : Bs w S d l.length := by
  obtain ⟨p, c, rfl, hp⟩ := h.rd
  refine ⟨p, c, rfl, fun hn => ?_⟩
  have hne : l ≠ [] := List.length_pos_iff.1 hn
  obtain ⟨b, off, rfl, hc⟩ := hp.2.2.2 hne
  exact ⟨b, off, rfl, h.foot b rfl hne, h.lt b rfl hne, fun i hi => ⟨⟨_, (l.getD i 0).toNat_lt, hc i hi⟩, h.thaw b off c rfl i hi⟩⟩
theorem Bs.same {w w' : World} {S : Foot} {d : Value} {n : Nat} (h : Bs w S d n) (hs : SameOn S w w') : Bs w' S d n := by
  obtain ⟨p, c, rfl, h⟩ := h
  refine ⟨p, c, rfl, fun hn => ?_⟩
  obtain ⟨b, off, rfl, hb, hl, hc⟩ := h hn
  refine ⟨b, off, rfl, hb, lt_same hl (hs b hb), fun i hi => ?_⟩
  obtain ⟨⟨x, hx, hcell⟩, hf⟩ := hc i hi
  exact ⟨⟨x, hx, (World.cell?_of_block (w := w) (a := ⟨b, off + i, none⟩) (hs b hb)).trans hcell⟩, (World.frozen?_of_block (w := w) (a := ⟨b, off + i, none⟩) (hs b hb)).trans hf⟩
theorem Bs.set {w : World} {S : Foot} {d : Value} {n : Nat} (h : Bs w S d n) (g j y : Nat) (hy : y < 256) : Bs (w.setCell ⟨g, j, none⟩ (.int .u8 (y : Int))) S d n := by
  obtain ⟨p, c, rfl, h⟩ := h
  refine ⟨p, c, rfl, fun hn => ?_⟩
  obtain ⟨b, off, rfl, hb, hl, hc⟩ := h hn
  refine ⟨b, off, rfl, hb, by simpa [World.setCell] using hl, fun i hi => ?_⟩
  obtain ⟨⟨x, hx, hcell⟩, hf⟩ := hc i hi
  refine ⟨?_, by rw [← hf]; exact World.frozen?_setCell ..⟩
  by_cases he : b = g ∧ off + i = j
  · obtain ⟨rfl, rfl⟩ := he
    exact ⟨y, hy, World.cell?_setCell_same _ _ _ hcell⟩
  · refine ⟨x, hx, ?_⟩
    rw [← hcell]
    exact World.cell?_setCell_other _ _ _ _ (by intro e; cases e; exact he ⟨rfl, rfl⟩)
/-- A row of entries, with so many bytes each, that may be written over. -/
def SpR (w : World) (S : Foot) (g : Nat) (ms : List Nat) : Prop := S g ∧ ∃ cur, w.heap[g]? = some (.cells cur 53) ∧
  ∀ i (hi : i < ms.length), (∃ t : Nat, t < 2 ^ 64 ∧ cur[i * 2]? = some (.int .u64 (t : Int))) ∧ ∃ d, cur[i * 2 + 1]? = some d ∧ Bs w (fun b => S b ∧ b ≠ g) d ms[i]
theorem SpR.of_row {w : World} {S : Foot} {g cap n : Nat} {es : List Ent} (h : EsG w S 53 (.slice (some ⟨g, 0, none⟩) n cap) es) : SpR w S g (es.map fun e => e.2.length) := by
  rcases h with ⟨h, _⟩ | ⟨g', cap', cur, h, hg, hh, h1, h2, h3, h4⟩
  · cases h
  · cases h
    refine ⟨hg, cur, hh, fun i hi => ?_⟩
    rw [List.length_map] at hi
    obtain ⟨d, q1, q2, q3, q4⟩ := h4.at i hi
    have up : ∀ j u, (cur.toList.take (es.length * 2))[j]? = some u → cur[j]? = some u := fun j u hu => by
      rw [List.getElem?_take] at hu
      split at hu
      · simpa using hu
      · cases hu
    refine ⟨⟨_, q4, up _ _ q1⟩, d, up _ _ q2, ?_⟩
    rw [List.getElem_map]
    exact Bs.of_data q3
theorem SpR.c0 {w : World} {S : Foot} {g : Nat} {ms : List Nat} (h : SpR w S g ms) {i : Nat} (hi : i < ms.length) : ∃ t : Nat, t < 2 ^ 64 ∧ w.cell? ⟨g, i * 2, none⟩ = some (.int .u64 (t : Int)) := by
  obtain ⟨_, cur, hh, hc⟩ := h
  obtain ⟨⟨t, ht, h0⟩, _⟩ := hc i hi
  exact ⟨t, ht, by rw [cell_of_row _ _ _ _ _ _ hh]; exact h0⟩
theorem SpR.c1 {w : World} {S : Foot} {g : Nat} {ms : List Nat} (h : SpR w S g ms) {i : Nat} (hi : i < ms.length) : ∃ d, w.cell? ⟨g, i * 2 + 1, none⟩ = some d ∧ Bs w (fun b => S b ∧ b ≠ g) d ms[i] := by
  obtain ⟨_, cur, hh, hc⟩ := h
  obtain ⟨_, d, h1, h2⟩ := hc i hi
  exact ⟨d, by rw [cell_of_row _ _ _ _ _ _ hh]; exact h1, h2⟩
theorem SpR.frozen {w : World} {S : Foot} {g : Nat} {ms : List Nat} (h : SpR w S g ms) (j : Nat) : w.frozen? ⟨g, j, none⟩ = false := by
  obtain ⟨_, cur, hh, _⟩ := h
  simp [World.frozen?, hh]
theorem SpR.byte {w : World} {S : Foot} {g : Nat} {ms : List Nat} (h : SpR w S g ms) {b j y : Nat} (hb : b ≠ g) (hy : y < 256) : SpR (w.setCell ⟨b, j, none⟩ (.int .u8 (y : Int))) S g ms := by
  obtain ⟨hg, cur, hh, hc⟩ := h
  refine ⟨hg, cur, by rw [Below.heap_setCell _ _ _ _ (by simpa using Ne.symm hb)]; exact hh, fun i hi => ?_⟩
  obtain ⟨h0, d, h1, h2⟩ := hc i hi
  exact ⟨h0, d, h1, h2.set b j y hy⟩
theorem SpR.term {w : World} {S : Foot} {g : Nat} {ms : List Nat} (h : SpR w S g ms) {k y : Nat} (hy : y < 2 ^ 64) : SpR (w.setCell ⟨g, k * 2, none⟩ (.int .u64 (y : Int))) S g ms := by
  obtain ⟨hg, cur, hh, hc⟩ := h
  refine ⟨hg, cur.set! (k * 2) (.int .u64 (y : Int)), ?_, fun i hi => ?_⟩
  · simp only [World.setCell, Array.getElem?_modify, hh, if_true, Option.map_some]
    rfl
  obtain ⟨⟨t, ht, h0⟩, d, h1, h2⟩ := hc i hi
  refine ⟨?_, d, ?_, h2.same fun b hb => Below.heap_setCell _ _ _ _ (by simpa using hb.2)⟩
  · simp only [Array.set!_eq_setIfInBounds, Array.getElem?_setIfInBounds]
    by_cases e : k * 2 = i * 2
    · rw [if_pos e]
      have : k * 2 < cur.size := by rw [e]; exact (Array.getElem?_eq_some_iff.1 h0).1
      exact ⟨y, hy, by rw [if_pos this]⟩
    · rw [if_neg e]; exact ⟨t, ht, h0⟩
  · simp only [Array.set!_eq_setIfInBounds, Array.getElem?_setIfInBounds]
    rw [if_neg (by omega)]; exact h1

set_option maxRecDepth 100000 in
theorem spoil_row_w (S : Foot) (g cap : Nat) (ms : List Nat) (n : Nat) (hn : n = ms.length) (w : World) (h : SpR w S g ms) (h6 : n ≤ 1000000) (hm : ∀ m ∈ ms, m ≤ 140737488355328) :
    Calls Try.prog 32 #[.slice (some ⟨g, 0, none⟩) n cap] w fun r w' => (∃ x, r = .returned x) ∧ Touch S w w' := by
  have H0 := Lib.hid h
  have Hm := Lib.hid hm
  have Hn := Lib.hid hn
  clear h hm hn
  go_enter Try.func32, Try.ntmps32
  go_wp2
  go_loopw [2] (fun i wr => ∃ k : Nat, k ≤ n ∧ i = .int .i64 (k : Int) ∧ Hid (SpR wr S g ms) ∧ Hid (Touch S w wr)) (fun i _ => n - (intOf i).toNat)
  case atStart => exact ⟨0, Nat.zero_le _, rfl, H0, Lib.hid (Touch.refl _ _)⟩
  case round =>
    obtain ⟨k, hk, rfl, HS, HW⟩ := hrel
    clear H0
    by_cases hlt : k < n
    · have hkm : k < ms.length := by rw [← Hn.out]; exact hlt
      have Hkm := Lib.hid hkm
      obtain ⟨M, hM⟩ : ∃ M, M = ms[k] := ⟨_, rfl⟩
      have HM := Lib.hid hM
      have hMl : M ≤ 140737488355328 := by rw [hM]; exact Hm.out _ (List.getElem_mem _)
      clear hkm hM
      go_wp2
      go_loopw [3] (fun j wr => ∃ m : Nat, m ≤ M ∧ j = .int .i64 (m : Int) ∧ Hid (SpR wr S g ms) ∧ Hid (Touch S w wr)) (fun i _ => M - (intOf i).toNat)
      case atStart => exact ⟨0, Nat.zero_le _, rfl, HS, HW⟩
      case round =>
        obtain ⟨m, hm, rfl, HS, HW⟩ := hrel

        obtain ⟨d, hc1, hbs⟩ := HS.out.c1 Hkm.out
        have hbs := (show Bs _ _ d M from by rw [HM.out]; exact hbs)
        obtain ⟨p, c, rfl, hb⟩ := hbs
        by_cases hml : m < M
        · obtain ⟨b, off, rfl, hSb, hbl, hcell⟩ := hb (by omega)
          obtain ⟨⟨x, hx, hcx⟩, hfx⟩ := hcell m hml
          obtain ⟨y, hy, hyl⟩ : ∃ y : Nat, IntKind.u8.wrap ((x : Int) + 1) = (y : Int) ∧ y < 256 := ⟨(x + 1) % 256, by rw [IntKind.wrap_u8]; omega, by omega⟩
          have HS2 := Lib.hid (HS.out.byte (j := off + m) (y := y) hSb.2 hyl)
          have HW2 := Lib.hid (HW.out.trans (Touch.of_grownBy (S := S) (Lib.grownBy_setCell _ b (off + m) (.int .u8 (y : Int))) (fun b' e => by cases e; exact hSb.1)) (S1 := S) fun _ _ e => e)
          clear hb hcell hSb hbl
          go_wp2
          go_roundw
          case rel => exact ⟨m + 1, by omega, by go_num, HS2, HW2⟩
          case measure => simp [intOf]; omega
        · have hm2 : m = M := by omega
          subst hm2
          obtain ⟨t, ht, hc0⟩ := HS.out.c0 Hkm.out
          have hf0 := HS.out.frozen (k * 2)
          obtain ⟨y, hy, hyl⟩ : ∃ y : Nat, IntKind.u64.wrap ((t : Int) + 1) = (y : Int) ∧ y < 2 ^ 64 := ⟨(t + 1) % 2 ^ 64, by rw [IntKind.wrap_u64]; omega, by omega⟩
          have HS2 := Lib.hid (HS.out.term (k := k) hyl)
          have HW2 := Lib.hid (HW.out.trans (Touch.of_grownBy (S := S) (Lib.grownBy_setCell _ g (k * 2) (.int .u64 (y : Int))) (fun b' e => by cases e; exact HS.out.1)) (S1 := S) fun _ _ e => e)
          clear hb ht hyl
          go_wp2
          go_roundw
          case rel => exact ⟨k + 1, by omega, by go_num, HS2, HW2⟩
          case measure => simp [intOf]; omega
    · have hk2 : k = n := by omega
      go_wp2
      go_end0
      exact ⟨⟨_, rfl⟩, HW.out⟩
theorem spoil_w (S : Foot) (v : Value) (es : List Ent) (w : World) (h : EsG w S 53 v es) (h6 : es.length ≤ 1000000) (hm : ∀ e ∈ es, e.2.length ≤ 140737488355328) :
    Calls Try.prog 32 #[v] w fun r w' => (∃ x, r = .returned x) ∧ Touch S w w' := by
  have h0 := h
  rcases h with ⟨rfl, rfl⟩ | ⟨g, cap, cur, rfl, _⟩
  · go_enter Try.func32, Try.ntmps32
    go_wp2
    go_loopw [2] (fun i wr => i = .int .i64 0 ∧ wr = w) (fun i _ => 0)
    case atStart => exact ⟨rfl, rfl⟩
    case round =>
      obtain ⟨rfl, rfl⟩ := hrel
      go_wp2
      go_end0
      exact ⟨⟨_, rfl⟩, Touch.refl _ _⟩
  · exact spoil_row_w S g cap _ _ (by simp) w (SpR.of_row h0) h6 fun m hm' => by
      obtain ⟨e, he, rfl⟩ := List.mem_map.1 hm'
      exact hm e he
end Go.Proofs.Yteellfgiejnigaa
/- Entries in memory of their own: the walk of the document's Copied. -/
namespace Go.Proofs.Yteellfgiejnigaa
open Go.ChangeShapes Go.WideShapes Go.ChangeAt Go.RowKit
set_option linter.unusedVariables false

theorem OB.lower {w : World} {base base' : Nat} {e : TypeId} {v : Value} {l : List UInt8} (h : OB w base e v l) (hb : base' ≤ base) : OB w base' e v l := by
  refine ⟨h.1, ?_⟩
  rcases h.2 with h2 | ⟨g, cap, cur, hv, hg, r⟩
  · exact .inl h2
  · exact .inr ⟨g, cap, cur, hv, Nat.le_trans hb hg, r⟩
theorem DatA.of_ob {w : World} {base : Nat} {v : Value} {l : List UInt8} (h : OB w base 5 v l) : DatA w (fun b => base ≤ b) v l :=
  ⟨h.rd, fun g e _ => (h.lt g e).1, fun g e _ => (h.lt g e).2, fun b off c e i hi => by
    subst e
    obtain ⟨g, hg, _⟩ := OB.some h (by omega)
    cases hg
    rw [Nat.zero_add]
    exact (h.cell rfl hi).2.1⟩
/-- A new empty row of bytes. -/
def Fresh (B0 : Nat) (y : Value) (W : World) : Prop := ∃ N, y = .slice (some ⟨N, 0, none⟩) 0 0 ∧ OB W B0 5 y []
theorem Fresh.keeps {B0 : Nat} {y : Value} {W W' : World} (h : Fresh B0 y W) (hk : Keeps W W') : Fresh B0 y W' := by
  obtain ⟨N, rfl, h⟩ := h; exact ⟨N, rfl, h.keeps hk⟩
/-- A copy of these bytes. -/
def DatOf (l : List UInt8) (B0 : Nat) (y : Value) (W : World) : Prop := ∃ p c, y = .slice p l.length c ∧ DatA W (fun b => B0 ≤ b) (.slice p l.length c) l
theorem DatOf.keeps {l : List UInt8} {B0 : Nat} {y : Value} {W W' : World} (h : DatOf l B0 y W) (hk : Keeps W W') : DatOf l B0 y W' := by
  obtain ⟨p, c, rfl, hd⟩ := h; exact ⟨p, c, rfl, hd.keeps hk⟩
/-- append onto a new empty row of bytes. -/
theorem fresh_append {w : World} {B0 : Nat} {ty : TypeId} {y x : Value} {l : List UInt8} (h : Fresh B0 y w) (hx : RdB w x l) (hl : l.length ≤ 140737488355328) (hB : B0 ≤ w.heap.size) :
    ∃ v' w', (Builtin.append_ #[29, 29] ty #[y, x]).run Try.prog w = .ok v' w' ∧ DatOf l B0 v' w' ∧ RegT.Grow w w' := by
  obtain ⟨N, rfl, ho⟩ := h
  obtain ⟨v', w', hr, ho', hg⟩ := run_append_fresh (P := Try.prog) (ty := ty) hel (base := B0) ho hx.src (by unfold maxLen; omega) (by omega) hB
  have hob : OB w' B0 5 v' l := ho'
  obtain ⟨p, c, rfl⟩ := hob.form
  exact ⟨_, w', hr, ⟨p, c, rfl, DatA.of_ob hob⟩, hg⟩

set_option maxRecDepth 100000 in
set_option maxHeartbeats 3200000 in
theorem copies_w (R : Foot) (sv : Value) (ss : List Ent) (w : World) (hr : EsR w R sv ss) (hn : ss.length ≤ 1000000) (hl : ∀ e ∈ ss, e.2.length ≤ 1000000) :
    Calls Try.prog 30 #[sv] w fun r w' => ∃ v, r = .returned v ∧ EsG w' (fun b => w.heap.size ≤ b) 53 v ss ∧ Below w.heap.size w w' := by
  obtain ⟨p0, c0, rfl⟩ : ∃ p c, sv = .slice p ss.length c := by obtain ⟨p, c, xs, h1, _⟩ := hr; exact ⟨p, c, h1⟩
  have Hr := Lib.hid (hr.mono (S' := fun b => b < w.heap.size) fun b hb hR => hb)
  have Hl := Lib.hid hl
  clear hr hl
  go_enter Try.func30, Try.ntmps30
  go_wp2
  go_loopw [3, 4] (fun v i wr => ∃ (k : Nat) (p : Option Addr) (n c : Nat), k ≤ ss.length ∧ i = .int .i64 (k : Int) ∧ v = .slice p n c ∧ Hid (EsG wr (fun b => w.heap.size ≤ b) 53 (.slice p n c) (ss.take k)) ∧ Hid (Below w.heap.size w wr)) (fun _ i _ => ss.length - (intOf i).toNat)
  case atStart => exact ⟨0, none, 0, 0, Nat.zero_le _, rfl, rfl, Lib.hid (.inl ⟨rfl, rfl⟩), Lib.hid (Below.refl _ _)⟩
  case round =>
    obtain ⟨k, pu, nu, cu, hk, rfl, rfl, HE, HB⟩ := hrel
    by_cases hlt : k < ss.length
    · obtain ⟨b, off, n, c, d, hsv, hnn, hrange, hda, htl⟩ := Hr.out.elem k hlt
      cases hsv
      have hcs : w.cell? ⟨b, off + k * 2, none⟩ = some (.int .u64 ((ss[k].1 : Nat) : Int)) ∧ w.cell? ⟨b, off + k * 2 + 1, none⟩ = some d := ⟨by simpa using hrange 0 _ rfl, by simpa using hrange 1 _ rfl⟩
      have hbw : b < w.heap.size := block_lt_of_cell hcs.1
      have Hda := Lib.hid hda
      have Htl := Lib.hid htl
      have Hes := Lib.hid (show ss.take (k + 1) = ss.take k ++ [(ss[k].1, ss[k].2)] by rw [List.take_succ_eq_append_getElem hlt])
      have hll := Hl.out ss[k] (List.getElem_mem _)
      have hlen : (ss.take k).length = k := by rw [List.length_take, Nat.min_eq_left hk]
      have Hlen := Lib.hid hlen
      generalize ss[k].1 = t at *
      generalize ss[k].2 = l at *
      obtain ⟨pd, cd, rfl⟩ : ∃ p c, d = .slice p l.length c := by obtain ⟨p, c, h1, _⟩ := hda.rd; exact ⟨p, c, h1⟩
      have hug : ∀ x, (Value.slice pu nu cu).ownBlock = some x → w.heap.size ≤ x ∧ x < wr.heap.size := fun x e => HE.out.foot x e
      have Hug := Lib.hid hug
      have hww : w.heap.size ≤ wr.heap.size := HB.out.size
      have hsame : ∀ (W : World), Touch (fun b => (Value.slice pu nu cu).ownBlock = some b ∨ wr.heap.size ≤ b) wr.drew W → SameOn (fun b => b < w.heap.size) w W := fun W hR x hx => by
        have hx : x < w.heap.size := hx
        rw [hR.block x (by show x < wr.heap.size; omega) (fun e => by
          rcases e with e | e
          · have := (hug x e).1; omega
          · omega)]
        exact HB.out.block x hx
      have HDat := Lib.hid (fun (W : World) (hR : Touch (fun b => (Value.slice pu nu cu).ownBlock = some b ∨ wr.heap.size ≤ b) wr.drew W) => (hda.frame (hsame W hR)).rd)
      have Hc0 := Lib.hid (fun (W : World) (hR : Touch (fun b => (Value.slice pu nu cu).ownBlock = some b ∨ wr.heap.size ≤ b) wr.drew W) => (World.cell?_of_block (w := w) (a := ⟨b, off + k * 2, none⟩) (hsame W hR b hbw)).trans hcs.1)
      have Hc1 := Lib.hid (fun (W : World) (hR : Touch (fun b => (Value.slice pu nu cu).ownBlock = some b ∨ wr.heap.size ≤ b) wr.drew W) => (World.cell?_of_block (w := w) (a := ⟨b, off + k * 2 + 1, none⟩) (hsame W hR b hbw)).trans hcs.2)
      clear hrange hda htl hlen hug hsame hcs
      go_wp2
      apply RegT.wp_region_T rfl 28 16 rfl (by kernel_rfl) (RegR (.slice pu nu cu) (fun b => w.heap.size ≤ b) wr.heap.size (ss.take k)) (RegR.refl _ _ _ _) (RegR.trans _ _ _ _)
      · iterate 3
          apply RegT.T_pure rfl rfl rfl
          · intro W hR; go_simp; rfl
          simp only [List.set_cons_succ, List.set_cons_zero, Nat.reduceAdd]
        apply RegT.T_pure (v := .pointer (some ⟨b, off + k * 2, none⟩)) rfl rfl rfl
        · intro W hR; clear hR; go_simp
        simp only [List.set_cons_succ, List.set_cons_zero, Nat.reduceAdd]
        apply RegT.T_pure (v := .pointer (some ⟨b, off + k * 2, none⟩)) rfl rfl rfl
        · intro W hR; clear hR; go_simp
        simp only [List.set_cons_succ, List.set_cons_zero, Nat.reduceAdd]
        apply RegT.T_pure (v := .int .u64 (t : Int)) rfl rfl rfl
        · intro W hR
          have hc := Hc0.out W hR.1
          clear hR
          go_simp
        simp only [List.set_cons_succ, List.set_cons_zero, Nat.reduceAdd]
        apply RegT.T_predC rfl rfl rfl 12 (Fresh wr.heap.size) (RegR.grow _ _ _ _) (fun y x z hR h => h.keeps hR.block)
        · intro W hR hf
          have hsz : wr.heap.size ≤ W.heap.size := hR.1.size
          clear hR hf
          go_simp
          exact RegT.OpOK_value ⟨⟨_, rfl, (OB.new W 5).lower hsz⟩, (Below.refl _ _).alloc (Nat.le_refl _) _⟩
        intro v6
        simp only [List.set_cons_succ, List.set_cons_zero, Nat.reduceAdd]
        iterate 2
          apply RegT.T_pure rfl rfl rfl
          · intro W hR; go_simp; rfl
          simp only [List.set_cons_succ, List.set_cons_zero, Nat.reduceAdd]
        apply RegT.T_pure (v := .pointer (some ⟨b, off + k * 2, none⟩)) rfl rfl rfl
        · intro W hR; clear hR; go_simp
        simp only [List.set_cons_succ, List.set_cons_zero, Nat.reduceAdd]
        apply RegT.T_pure (v := .pointer (some ⟨b, off + k * 2 + 1, none⟩)) rfl rfl rfl
        · intro W hR; clear hR; go_simp
        simp only [List.set_cons_succ, List.set_cons_zero, Nat.reduceAdd]
        apply RegT.T_pure (v := .slice pd l.length cd) rfl rfl rfl
        · intro W hR
          have hc := Hc1.out W hR.1
          clear hR
          go_simp
        simp only [List.set_cons_succ, List.set_cons_zero, Nat.reduceAdd]
        apply RegT.T_predC rfl rfl rfl 13 (DatOf l wr.heap.size) (RegR.grow _ _ _ _) (fun y x z hR h => h.keeps hR.block)
        · intro W hR hf
          have h6 : Fresh wr.heap.size v6 W := hf _ (.head _) (by kernel_rfl) (.inr rfl)
          obtain ⟨v', w', hr, hd, hg⟩ := fresh_append (ty := 29) h6 (HDat.out W hR.1) (by omega) hR.1.size
          exact append_ok (.tmp 17) (.tmp 22) rfl rfl rfl hr ⟨hd, hg⟩
        intro v12
        simp only [List.set_cons_succ, List.set_cons_zero, Nat.reduceAdd]
        apply RegT.T_predC rfl rfl rfl 14 (CopyOf t l wr.heap.size) (RegR.grow _ _ _ _) (fun y x z hR h => h.keeps hR.block)
        · intro W hR hf
          obtain ⟨p, c, rfl, hd⟩ : DatOf l wr.heap.size v12 W := hf _ (.head _) (by kernel_rfl) (.inr rfl)
          clear hR hf
          go_simp
          exact RegT.OpOK_value ⟨⟨p, c, rfl, hd⟩, Below.refl _ _⟩
        intro v13
        simp only [List.set_cons_succ, List.set_cons_zero, Nat.reduceAdd]
        apply RegT.T_predC rfl rfl rfl 15 (RowOf t l wr.heap.size) (RegR.grow _ _ _ _) (fun y x z hR h => h.keeps hR.block)
        · intro W hR hf
          obtain ⟨p, c, rfl, hd⟩ : CopyOf t l wr.heap.size v13 W := hf _ (.head _) (by kernel_rfl) (.inr rfl)
          clear hR hf
          go_simp
          exact RegT.OpOK_value ⟨⟨_, p, c, rfl, EntAt.new _ _ _, hd.keeps ((Keeps.refl W).alloc _)⟩, (Below.refl _ _).alloc (Nat.le_refl _) _⟩
        intro v14
        simp only [List.set_cons_succ, List.set_cons_zero, Nat.reduceAdd]
        apply RegT.T_write rfl rfl rfl none (fun y W => EsG W (fun b => w.heap.size ≤ b) 53 y (ss.take (k + 1))) (fun y x z hR h => h.keeps hR.block)
        · intro W hR hf
          obtain ⟨N, p, c, rfl, he, hd⟩ : RowOf t l wr.heap.size v14 W := hf _ (.head _) (by kernel_rfl) (.inr rfl)
          have hsz : wr.heap.size ≤ W.heap.size := hR.1.size
          obtain ⟨v', w', hr, ho', hg, _, hold⟩ := run_append_esg (P := Try.prog) (ty := 28) (c := 1) (S' := fun b => w.heap.size ≤ b) helE (hR.2 (HE.out.keeps (Keeps.refl wr).drew)) (EsC.cons Htl.out (hd.mono fun b _ hb => (⟨Nat.le_trans hww hb, fun e => by have hb2 : wr.heap.size ≤ b := hb; have := (Hug.out b e).2; omega⟩ : (w.heap.size ≤ b) ∧ (Value.slice pu nu cu).ownBlock ≠ some b)) .nil) (.inr ⟨⟨N, 0, none⟩, rfl, ent_cells he⟩)
            (by rw [Hlen.out]; unfold maxLen; simp; omega) (by rw [Hlen.out]; simp; omega) (fun b hb => hb) (Nat.le_trans hww hsz)
          refine append_ok (.tmp 11) (.tmp 25) rfl rfl rfl hr ⟨?_, ⟨Touch.of_grownBy hg fun b e => .inl e, fun _ => hold⟩⟩
          rw [Hes.out]; exact ho'
        intro v15
        simp only [List.set_cons_succ, List.set_cons_zero, Nat.reduceAdd]
        refine RegT.T_tail (fun W hR hf => ?_)
        have hy : EsG W (fun b => w.heap.size ≤ b) 53 v15 (ss.take (k + 1)) := hf _ (.head _) (.inl rfl)
        obtain ⟨p8, n8, c8, rfl⟩ : ∃ p n c, v15 = .slice p n c := by obtain ⟨p, c, e⟩ := hy.form; exact ⟨p, _, c, e⟩
        have Hy := Lib.hid hy
        have HB2 := Lib.hid (show Below w.heap.size w W from HB.out.trans (Touch.below (B := w.heap.size) ⟨hR.1.os, hR.1.tape, hR.1.output, hR.1.size, hR.1.block⟩ hww (fun x e => by
          rcases e with e | e
          · exact (Hug.out x e).1
          · omega)))
        clear hR hf hy
        simp only [List.drop_succ_cons, List.drop_zero]
        go_wp2
        go_roundw
        case rel => exact ⟨k + 1, p8, n8, c8, by omega, by go_num, rfl, Hy, HB2⟩
        case measure => simp [intOf]; omega
      · rfl
      · kernel_rfl
    · have hk2 : k = ss.length := by omega
      go_wp2
      go_ret
      have h1 := HE.out
      rw [hk2, List.take_length] at h1
      exact ⟨_, rfl, h1, HB.out⟩
end Go.Proofs.Yteellfgiejnigaa
/- The document's track as it lies; walks of its Last, TermAt and Add. -/
namespace Go.Proofs.Yteellfgiejnigaa
open Go.ChangeShapes Go.WideShapes Go.ChangeAt Go.RowKit
set_option linter.unusedVariables false

structure RkAt (w : World) (S : Foot) (g B T : Nat) (v : Value) (es : List Ent) : Prop where
  cells : w.heap[g]? = some (.cells #[.int .u64 (B : Int), .int .u64 (T : Int), v] 59)
  foot : S g
  own : EsG w (fun b => S b ∧ b ≠ g) 53 v es
  bB : B < 2 ^ 64
  bT : T < 2 ^ 64
  fits : B + es.length < 2 ^ 64
theorem RkAt.lt {w : World} {S : Foot} {g B T : Nat} {v : Value} {es : List Ent} (h : RkAt w S g B T v es) : g < w.heap.size := (Array.getElem?_eq_some_iff.1 h.cells).1
theorem RkAt.frame {w w' : World} {S : Foot} {g B T : Nat} {v : Value} {es : List Ent} (h : RkAt w S g B T v es) (hs : SameOn S w w') : RkAt w' S g B T v es :=
  ⟨by rw [hs g h.foot]; exact h.cells, h.foot, h.own.frame fun b hb => hs b hb.1, h.bB, h.bT, h.fits⟩
theorem RkAt.keeps {w w' : World} {S : Foot} {g B T : Nat} {v : Value} {es : List Ent} (h : RkAt w S g B T v es) (hk : Keeps w w') : RkAt w' S g B T v es :=
  ⟨by rw [hk g h.lt]; exact h.cells, h.foot, h.own.keeps hk, h.bB, h.bT, h.fits⟩
theorem RkAt.mono {w : World} {S S' : Foot} {g B T : Nat} {v : Value} {es : List Ent} (h : RkAt w S g B T v es) (hs : ∀ b, b < w.heap.size → S b → S' b) : RkAt w S' g B T v es :=
  ⟨h.cells, hs g h.lt h.foot, h.own.mono fun b hlt hb => ⟨hs b hlt hb.1, hb.2⟩, h.bB, h.bT, h.fits⟩
theorem RkAt.c0 {w : World} {S : Foot} {g B T : Nat} {v : Value} {es : List Ent} (h : RkAt w S g B T v es) : w.cell? ⟨g, 0, none⟩ = some (.int .u64 (B : Int)) := by rw [cell_of_row _ _ _ _ _ _ h.cells]; rfl
theorem RkAt.c1 {w : World} {S : Foot} {g B T : Nat} {v : Value} {es : List Ent} (h : RkAt w S g B T v es) : w.cell? ⟨g, 1, none⟩ = some (.int .u64 (T : Int)) := by rw [cell_of_row _ _ _ _ _ _ h.cells]; rfl
theorem RkAt.c2 {w : World} {S : Foot} {g B T : Nat} {v : Value} {es : List Ent} (h : RkAt w S g B T v es) : w.cell? ⟨g, 2, none⟩ = some v := by rw [cell_of_row _ _ _ _ _ _ h.cells]; rfl
theorem RkAt.frozen {w : World} {S : Foot} {g B T : Nat} {v : Value} {es : List Ent} (h : RkAt w S g B T v es) (k : Nat) : w.frozen? ⟨g, k, none⟩ = false := by
  have h := h.cells
  simp [World.frozen?, h]

theorem RkAt.put {W : World} {S S' : Foot} {g B T : Nat} {v y : Value} {es fs : List Ent} (h : RkAt W S g B T v es) (hg : S' g) (ho : EsG W (fun b => S' b ∧ b ≠ g) 53 y fs) (hf : B + fs.length < 2 ^ 64) : RkAt (W.setCell ⟨g, 2, none⟩ y) S' g B T y fs := by
  refine ⟨?_, hg, ho.frame fun b hb => Below.heap_setCell _ _ _ _ (by simpa using hb.2), h.bB, h.bT, hf⟩
  have hc := h.cells
  simp only [World.setCell, Array.getElem?_modify, hc, if_true, Option.map_some]
  rfl

theorem EsR.elemF {w : World} {S : Foot} {v : Value} {es : List Ent} (h : EsR w S v es) (k : Nat) (hk : k < es.length) : ∃ b off c d, v = .slice (some ⟨b, off, none⟩) es.length c ∧ S b ∧ b < w.heap.size ∧
    w.cell? ⟨b, off + k * 2, none⟩ = some (.int .u64 ((es[k].1 : Nat) : Int)) ∧ w.cell? ⟨b, off + k * 2 + 1, none⟩ = some d ∧ DatA w S d es[k].2 ∧ es[k].1 < 2 ^ 64 := by
  obtain ⟨p, c, xs, rfl, h1, h2, h3, h4, h5⟩ := h
  obtain ⟨b, off, rfl, hb, hlt, hc⟩ := h5 (by rintro rfl; simp at hk)
  obtain ⟨d, q1, q2, q3, q4⟩ := h4.at k hk
  exact ⟨b, off, c, d, rfl, hb, hlt, hc _ _ q1, by rw [Nat.add_assoc]; exact hc _ _ q2, q3, q4⟩

set_option maxRecDepth 100000 in
theorem rlast_w (S : Foot) (g B T : Nat) (v : Value) (es : List Ent) (w : World) (h : RkAt w S g B T v es) :
    Calls Try.prog 80 #[.pointer (some ⟨g, 0, none⟩)] w fun r w' => r = .returned (.int .u64 ((B + es.length : Nat) : Int)) ∧ Below w.heap.size w w' := by
  have c0 := h.c0
  have c2 := h.c2
  obtain ⟨p, c, rfl⟩ := h.own.form
  have hf := h.fits
  have hw1 : IntKind.u64.wrap ((es.length : Nat) : Int) = ((es.length : Nat) : Int) := IntWalk.u64_in _ (by omega)
  have hw2 : IntKind.u64.wrap ((B : Int) + ((es.length : Nat) : Int)) = ((B + es.length : Nat) : Int) := by rw [IntWalk.u64_in _ (by omega)]; omega
  generalize B + es.length = L at *
  generalize es.length = n at *
  clear h
  go_enter Try.func80, Try.ntmps80
  go_wp2
  go_quiet (fail)
  go_wp2
  go_ret
  exact ⟨rfl, ⟨rfl, rfl, rfl, Nat.le_refl _, fun _ _ => rfl⟩⟩

set_option maxRecDepth 100000 in
theorem rtermat_w (S : Foot) (g B T : Nat) (v : Value) (es : List Ent) (i : Nat) (w : World) (h : RkAt w S g B T v es) (hn : es.length ≤ 1000000) (hi : i < 2 ^ 64) :
    Calls Try.prog 38 #[.pointer (some ⟨g, 0, none⟩), .int .u64 (i : Int)] w fun r w' => r = .returned (.tuple #[.int .u64 (((termAt B T es i).1 : Nat) : Int), .bool (termAt B T es i).2]) ∧ Below w.heap.size w w' := by
  have H := Lib.hid h
  have Hlast := Lib.hid (rlast_w S g B T v es w h)
  have c0 := h.c0
  have hf := h.fits
  unfold termAt
  by_cases h1 : i < B
  · rw [if_pos (.inl h1)]
    clear h Hlast
    have e1 : decide (i < B) = true := by simp; omega
    go_enter Try.func38, Try.ntmps38
    go_wp2
    go_ret2
    exact ⟨rfl, Below.refl _ _⟩
  · by_cases h2 : B + es.length < i
    · rw [if_pos (.inr h2)]
      have e1 : decide (i < B) = false := by simp; omega
      have e2 : decide (B + es.length < i) = true := by simp; omega
      generalize B + es.length = L at *
      clear h
      go_enter Try.func38, Try.ntmps38
      go_wp2_with (go_at_call 80; refine (Hlast.out).mono ?_; rintro r w1 ⟨rfl, hB⟩; have H1 := Lib.hid (H.out.keeps hB.block); have HB := Lib.hid hB; have c0 := H1.out.c0; have c1 := H1.out.c1; have c2 := H1.out.c2; clear hB)
      go_ret2
      exact ⟨rfl, HB.out⟩
    · rw [if_neg (by omega)]
      by_cases h3 : i = B
      · rw [if_pos h3]
        subst h3
        have e1 : decide (i < i) = false := by simp
        have e2 : decide (i + es.length < i) = false := by simp
        generalize i + es.length = L at *
        clear h
        go_enter Try.func38, Try.ntmps38
        go_wp2_with (go_at_call 80; refine (Hlast.out).mono ?_; rintro r w1 ⟨rfl, hB⟩; have H1 := Lib.hid (H.out.keeps hB.block); have HB := Lib.hid hB; have c0 := H1.out.c0; have c1 := H1.out.c1; have c2 := H1.out.c2; clear hB)
        go_ret2
        exact ⟨rfl, HB.out⟩
      · rw [if_neg h3]
        obtain ⟨k, hk⟩ : ∃ k, i = B + 1 + k := ⟨i - B - 1, by omega⟩
        have hkl : k < es.length := by omega
        obtain ⟨b, off, c, rfl, hc⟩ := h.own.rd.term k hkl
        have ht : (es.getD (i - B - 1) (0, [])).1 = es[k].1 := by rw [show i - B - 1 = k by omega, List.getD, List.getElem?_eq_getElem hkl]; rfl
        rw [ht]
        have Hc := Lib.hid hc
        generalize es[k].1 = t at *
        have e1 : decide (i < B) = false := by simp; omega
        have e2 : decide (B + es.length < i) = false := by simp; omega
        have e3 : decide (i = B) = false := by simp; omega
        have e4 : (i == B) = false := by simp; omega
        have e5 : IntKind.u64.wrap ((i : Int) - (B : Int)) = (k : Int) + 1 := by rw [IntWalk.u64_in _ (by omega)]; omega
        have e6 : IntKind.u64.wrap ((k : Int) + 1 - 1) = (k : Int) := by rw [IntWalk.u64_in _ (by omega)]; omega
        have e7 : (k : Int) + 1 - 1 = (k : Int) := by omega
        have e8 : IntKind.u64.wrap (k : Int) = (k : Int) := IntWalk.u64_in _ (by omega)
        generalize B + es.length = L at *
        generalize es.length = n at *
        clear h ht hc hk h3 h2 h1
        go_enter Try.func38, Try.ntmps38
        go_wp2_with (go_at_call 80; refine (Hlast.out).mono ?_; rintro r w1 ⟨rfl, hB⟩; have H1 := Lib.hid (H.out.keeps hB.block); have HB := Lib.hid hB; have c0 := H1.out.c0; have c1 := H1.out.c1; have c2 := H1.out.c2; have hcc := hB.cell (block_lt_of_cell Hc.out); rw [Hc.out] at hcc; clear hB)
        go_quiet (fail)
        go_wp2
        go_ret2
        exact ⟨rfl, HB.out.trans ⟨rfl, rfl, rfl, Nat.le_refl _, fun _ _ => rfl⟩⟩
set_option maxRecDepth 100000 in
set_option maxHeartbeats 3200000 in
theorem radd_w (S R : Foot) (g B T : Nat) (v sv : Value) (es ss : List Ent) (w : World) (h : RkAt w S g B T v es) (hr : EsR w R sv ss) (hd : ∀ b, b < w.heap.size → R b → S b → False)
    (hn : es.length + ss.length ≤ 1000000) (hl : ∀ e ∈ ss, e.2.length ≤ 1000000) :
    Calls Try.prog 31 #[.pointer (some ⟨g, 0, none⟩), sv] w fun r w' => (∃ x, r = .returned x) ∧ ∃ v', RkAt w' (fun b => S b ∨ w.heap.size ≤ b) g B T v' (es ++ ss.take (18446744073709551615 - (B + es.length))) ∧ Touch S w w' := by
  obtain ⟨p0, c0, rfl⟩ : ∃ p c, sv = .slice p ss.length c := by obtain ⟨p, c, xs, h1, _⟩ := hr; exact ⟨p, c, h1⟩
  have H := Lib.hid h
  have Hr := Lib.hid (hr.mono (S' := fun b => R b ∧ b < w.heap.size) fun b hb hR => ⟨hR, hb⟩)
  have Hd := Lib.hid hd
  have Hl := Lib.hid hl
  have hglt := h.lt
  have hsl : ss.length ≤ 1000000 := by omega
  have Hn := Lib.hid hn
  clear h hr hd hl hn
  go_enter Try.func31, Try.ntmps31
  go_wp2
  go_loopw [4] (fun i wr => ∃ (k : Nat) (u : Value), k ≤ ss.length ∧ i = .int .i64 (k : Int) ∧ Hid (k ≤ 18446744073709551615 - (B + es.length)) ∧ Hid (RkAt wr (fun b => S b ∨ w.heap.size ≤ b) g B T u (es ++ ss.take k)) ∧ Hid (Touch S w wr)) (fun i _ => ss.length - (intOf i).toNat)
  case atStart => exact ⟨0, v, Nat.zero_le _, rfl, Lib.hid (Nat.zero_le _), Lib.hid (by rw [List.take_zero, List.append_nil]; exact H.out.mono fun b _ hb => .inl hb), Lib.hid (Touch.refl _ _)⟩
  case round =>
    obtain ⟨k, u, hk, rfl, HK, HT, HW⟩ := hrel
    have hlen : (es ++ ss.take k).length = es.length + k := by rw [List.length_append, List.length_take, Nat.min_eq_left hk]
    have Hlast := Lib.hid (rlast_w _ g B T _ _ wr HT.out)
    rw [hlen] at Hlast
    have Hlen := Lib.hid hlen
    have hfit := HT.out.fits
    rw [hlen] at hfit
    clear hlen
    by_cases hlt : k < ss.length
    · by_cases htop : B + (es.length + k) = 18446744073709551615
      · have hdec : ((((B + (es.length + k) : Nat) : Int)) == 18446744073709551615) = true := by simp; omega
        have hdec2 : decide ((((B + (es.length + k) : Nat) : Int)) = 18446744073709551615) = true := by simp; omega
        have hkk : k = 18446744073709551615 - (B + es.length) := by omega
        have Hkk := Lib.hid hkk
        clear hkk
        generalize B + (es.length + k) = L at *
        go_wp2_with (go_at_call 80; refine (Hlast.out).mono ?_; rintro r w3 ⟨rfl, hB⟩; have HB3 := Lib.hid hB; clear hB Hlast)
        go_end0
        refine ⟨⟨_, rfl⟩, u, ?_, HW.out.trans (Touch.of_below HB3.out) (S := S) (S1 := S) (fun b _ e => e)⟩
        rw [← Hkk.out]
        exact HT.out.keeps HB3.out.block
      · have hdec : ((((B + (es.length + k) : Nat) : Int)) == 18446744073709551615) = false := by simp; omega
        have hdec2 : decide ((((B + (es.length + k) : Nat) : Int)) = 18446744073709551615) = false := by simp; omega
        have Hkk := Lib.hid (show k + 1 ≤ 18446744073709551615 - (B + es.length) by omega)
        have Hfit := Lib.hid (show B + (es.length + k) + 1 < 2 ^ 64 by omega)
        have HR := Lib.hid (Hr.out.frame (fun b hb => HW.out.block b hb.2 fun e => Hd.out b hb.2 hb.1 e))
        obtain ⟨b, off, c, d, hsv, hbR, hbl, hc0, hc1, hda, htl⟩ := HR.out.elemF k hlt
        cases hsv
        have Hda := Lib.hid hda
        have Htl := Lib.hid htl
        have Hes := Lib.hid (show ss.take (k + 1) = ss.take k ++ [(ss[k].1, ss[k].2)] by rw [List.take_succ_eq_append_getElem hlt])
        have hll := Hl.out ss[k] (List.getElem_mem _)
        generalize ss[k].1 = t at *
        generalize ss[k].2 = l at *
        obtain ⟨pd, cd, rfl⟩ : ∃ p c, d = .slice p l.length c := by obtain ⟨p, c, h1, _⟩ := hda.rd; exact ⟨p, c, h1⟩
        obtain ⟨pu, nu, cu, rfl⟩ : ∃ p n c, u = .slice p n c := by obtain ⟨p, c, e⟩ := HT.out.own.form; exact ⟨p, _, c, e⟩
        have HbR := Lib.hid hbR
        have Hc0 := Lib.hid hc0
        have Hc1 := Lib.hid hc1
        clear htop hfit hda htl hbR hc0 hc1 hbl
        generalize hL : B + (es.length + k) = L at *
        go_wp2_with (go_at_call 80; refine (Hlast.out).mono ?_; rintro r w3 ⟨rfl, hB⟩; have HB3 := Lib.hid hB; clear hB Hlast)
        have HT3 := Lib.hid (HT.out.keeps HB3.out.block)
        have hw3 : wr.heap.size ≤ w3.heap.size := HB3.out.size
        have hg3 : g < w3.heap.size := HT3.out.lt
        have hww : w.heap.size ≤ wr.heap.size := HW.out.size
        have hug : ∀ x, (Value.slice pu nu cu).ownBlock = some x → x ≠ g ∧ x < wr.heap.size := fun x e => ⟨(HT.out.own.foot x e).1.2, (HT.out.own.foot x e).2⟩
        have Hug := Lib.hid hug
        clear hug
        have hsame : ∀ (W : World), Touch (fun b => (Value.slice pu nu cu).ownBlock = some b ∨ w3.heap.size ≤ b) w3.drew W → SameOn (fun b => R b ∧ b < w.heap.size) wr W := fun W hR x hx => by
          have hx1 := hx.1
          have hx2 := hx.2
          rw [hR.block x (by show x < w3.heap.size; omega) (fun e2 => by
            rcases e2 with e2 | e2
            · rcases (HT.out.own.foot x e2).1.1 with e3 | e3
              · exact Hd.out x hx2 hx1 e3
              · omega
            · omega)]
          exact HB3.out.block x (by omega)
        have Hsame := Lib.hid hsame
        clear hsame
        have HDat := Lib.hid (fun (W : World) (hR : Touch (fun b => (Value.slice pu nu cu).ownBlock = some b ∨ w3.heap.size ≤ b) w3.drew W) => (Hda.out.frame (Hsame.out W hR)).rd)
        have HC0 := Lib.hid (fun (W : World) (hR : Touch (fun b => (Value.slice pu nu cu).ownBlock = some b ∨ w3.heap.size ≤ b) w3.drew W) => (World.cell?_of_block (w := wr) (a := ⟨b, off + k * 2, none⟩) (Hsame.out W hR b HbR.out)).trans Hc0.out)
        have HC1 := Lib.hid (fun (W : World) (hR : Touch (fun b => (Value.slice pu nu cu).ownBlock = some b ∨ w3.heap.size ≤ b) w3.drew W) => (World.cell?_of_block (w := wr) (a := ⟨b, off + k * 2 + 1, none⟩) (Hsame.out W hR b HbR.out)).trans Hc1.out)
        have Hcell := Lib.hid (fun (W : World) (hR : Touch (fun b => (Value.slice pu nu cu).ownBlock = some b ∨ w3.heap.size ≤ b) w3.drew W) => (show W.heap[g]? = some (.cells #[.int .u64 (B : Int), .int .u64 (T : Int), .slice pu nu cu] 59) from by
          rw [hR.block g hg3 (fun e => by rcases e with e | e; · exact (Hug.out g e).1 rfl
                                          · omega)]
          exact HT3.out.cells))
        apply RegT.wp_region_T rfl 38 22 rfl (by kernel_rfl) (RegR (.slice pu nu cu) (fun b => (S b ∨ w.heap.size ≤ b) ∧ b ≠ g) w3.heap.size (es ++ ss.take k)) (RegR.refl _ _ _ _) (RegR.trans _ _ _ _)
        · iterate 3
            apply RegT.T_pure rfl rfl rfl
            · intro W hR; go_simp; rfl
            simp only [List.set_cons_succ, List.set_cons_zero, Nat.reduceAdd]
          apply RegT.T_pure (v := .pointer (some ⟨g, 2, none⟩)) rfl rfl rfl
          · intro W hR; clear hR; go_simp
          simp only [List.set_cons_succ, List.set_cons_zero, Nat.reduceAdd]
          apply RegT.T_pure (v := .slice pu nu cu) rfl rfl rfl
          · intro W hR
            have hc := row2 (Hcell.out W hR.1)
            clear hR
            go_simp
          simp only [List.set_cons_succ, List.set_cons_zero, Nat.reduceAdd]
          iterate 2
            apply RegT.T_pure rfl rfl rfl
            · intro W hR; go_simp; rfl
            simp only [List.set_cons_succ, List.set_cons_zero, Nat.reduceAdd]
          iterate 2
            apply RegT.T_pure (v := .pointer (some ⟨b, off + k * 2, none⟩)) rfl rfl rfl
            · intro W hR; clear hR; go_simp
            simp only [List.set_cons_succ, List.set_cons_zero, Nat.reduceAdd]
          apply RegT.T_pure (v := .int .u64 (t : Int)) rfl rfl rfl
          · intro W hR
            have hc := HC0.out W hR.1
            clear hR
            go_simp
          simp only [List.set_cons_succ, List.set_cons_zero, Nat.reduceAdd]
          apply RegT.T_predC rfl rfl rfl 16 (Fresh w3.heap.size) (RegR.grow _ _ _ _) (fun y x z hR h => h.keeps hR.block)
          · intro W hR hf
            have hsz : w3.heap.size ≤ W.heap.size := hR.1.size
            clear hR hf
            go_simp
            exact RegT.OpOK_value ⟨⟨_, rfl, (OB.new W 5).lower hsz⟩, (Below.refl _ _).alloc (Nat.le_refl _) _⟩
          intro v6
          simp only [List.set_cons_succ, List.set_cons_zero, Nat.reduceAdd]
          iterate 2
            apply RegT.T_pure rfl rfl rfl
            · intro W hR; go_simp; rfl
            simp only [List.set_cons_succ, List.set_cons_zero, Nat.reduceAdd]
          apply RegT.T_pure (v := .pointer (some ⟨b, off + k * 2, none⟩)) rfl rfl rfl
          · intro W hR; clear hR; go_simp
          simp only [List.set_cons_succ, List.set_cons_zero, Nat.reduceAdd]
          apply RegT.T_pure (v := .pointer (some ⟨b, off + k * 2 + 1, none⟩)) rfl rfl rfl
          · intro W hR; clear hR; go_simp
          simp only [List.set_cons_succ, List.set_cons_zero, Nat.reduceAdd]
          apply RegT.T_pure (v := .slice pd l.length cd) rfl rfl rfl
          · intro W hR
            have hc := HC1.out W hR.1
            clear hR
            go_simp
          simp only [List.set_cons_succ, List.set_cons_zero, Nat.reduceAdd]
          apply RegT.T_predC rfl rfl rfl 17 (DatOf l w3.heap.size) (RegR.grow _ _ _ _) (fun y x z hR h => h.keeps hR.block)
          · intro W hR hf
            have h6 : Fresh w3.heap.size v6 W := hf _ (.head _) (by kernel_rfl) (.inr rfl)
            obtain ⟨v', w', hr, hd, hg⟩ := fresh_append (ty := 29) h6 (HDat.out W hR.1) (by omega) hR.1.size
            exact append_ok (.tmp 26) (.tmp 31) rfl rfl rfl hr ⟨hd, hg⟩
          intro v12
          simp only [List.set_cons_succ, List.set_cons_zero, Nat.reduceAdd]
          apply RegT.T_predC rfl rfl rfl 18 (CopyOf t l w3.heap.size) (RegR.grow _ _ _ _) (fun y x z hR h => h.keeps hR.block)
          · intro W hR hf
            obtain ⟨p, c, rfl, hd⟩ : DatOf l w3.heap.size v12 W := hf _ (.head _) (by kernel_rfl) (.inr rfl)
            clear hR hf
            go_simp
            exact RegT.OpOK_value ⟨⟨p, c, rfl, hd⟩, Below.refl _ _⟩
          intro v13
          simp only [List.set_cons_succ, List.set_cons_zero, Nat.reduceAdd]
          apply RegT.T_predC rfl rfl rfl 19 (RowOf t l w3.heap.size) (RegR.grow _ _ _ _) (fun y x z hR h => h.keeps hR.block)
          · intro W hR hf
            obtain ⟨p, c, rfl, hd⟩ : CopyOf t l w3.heap.size v13 W := hf _ (.head _) (by kernel_rfl) (.inr rfl)
            clear hR hf
            go_simp
            exact RegT.OpOK_value ⟨⟨_, p, c, rfl, EntAt.new _ _ _, hd.keeps ((Keeps.refl W).alloc _)⟩, (Below.refl _ _).alloc (Nat.le_refl _) _⟩
          intro v14
          simp only [List.set_cons_succ, List.set_cons_zero, Nat.reduceAdd]
          apply RegT.T_write rfl rfl rfl none (fun y W => EsG W (fun b => (S b ∨ w.heap.size ≤ b) ∧ b ≠ g) 53 y (es ++ ss.take (k + 1))) (fun y x z hR h => h.keeps hR.block)
          · intro W hR hf
            obtain ⟨N, p, c, rfl, he, hd⟩ := (show RowOf t l w3.heap.size v14 W from hf _ (.head _) (by kernel_rfl) (.inr rfl))
            have hsz : w3.heap.size ≤ W.heap.size := hR.1.size
            obtain ⟨v', w', hr, ho', hg, _, hold⟩ := run_append_esg (P := Try.prog) (ty := 28) (c := 1) (S' := fun b => (S b ∨ w.heap.size ≤ b) ∧ b ≠ g) helE (hR.2 (HT3.out.own.keeps (Keeps.refl w3).drew)) (EsC.cons Htl.out (hd.mono fun b _ hb => (⟨⟨.inr (Nat.le_trans hww (Nat.le_trans hw3 hb)), fun e => by have hb2 : w3.heap.size ≤ b := hb; omega⟩, fun e => by have hb2 : w3.heap.size ≤ b := hb; have := (Hug.out b e).2; omega⟩ : ((S b ∨ w.heap.size ≤ b) ∧ b ≠ g) ∧ (Value.slice pu nu cu).ownBlock ≠ some b)) .nil) (.inr ⟨⟨N, 0, none⟩, rfl, ent_cells he⟩)
              (by rw [Hlen.out]; have := Hn.out; unfold maxLen; simp; omega) (by rw [Hlen.out]; have := Hn.out; simp; omega) (fun b hb => hb) ⟨.inr (by omega), by omega⟩
            refine append_ok (.tmp 20) (.tmp 34) rfl rfl rfl hr ⟨?_, ⟨Touch.of_grownBy hg fun b e => .inl e, fun _ => hold⟩⟩
            rw [Hes.out, ← List.append_assoc]; exact ho'
          intro v19
          simp only [List.set_cons_succ, List.set_cons_zero, Nat.reduceAdd]
          iterate 1
            apply RegT.T_pure rfl rfl rfl
            · intro W hR; go_simp; rfl
            simp only [List.set_cons_succ, List.set_cons_zero, Nat.reduceAdd]
          apply RegT.T_pure (v := .pointer (some ⟨g, 2, none⟩)) rfl rfl rfl
          · intro W hR; clear hR; go_simp
          simp only [List.set_cons_succ, List.set_cons_zero, Nat.reduceAdd]
          refine RegT.T_tail (fun W hR hf => ?_)
          have hy : EsG W (fun b => (S b ∨ w.heap.size ≤ b) ∧ b ≠ g) 53 v19 (es ++ ss.take (k + 1)) := hf _ (.head _) (.inl rfl)
          obtain ⟨p8, n8, c8, rfl⟩ : ∃ p n c, v19 = .slice p n c := by obtain ⟨p, c, e⟩ := hy.form; exact ⟨p, _, c, e⟩
          have Hy := Lib.hid hy
          have hcl := Hcell.out W hR.1
          have HTW := Lib.hid (show RkAt W (fun b => S b ∨ w.heap.size ≤ b) g B T (.slice pu nu cu) (es ++ ss.take k) from ⟨hcl, HT3.out.foot, hR.2 (HT3.out.own.keeps (Keeps.refl w3).drew), HT3.out.bB, HT3.out.bT, HT3.out.fits⟩)
          have hc2 := HTW.out.c2
          have hf2 := HTW.out.frozen 2
          have HTo := Lib.hid (show Touch S w W from by
            refine (HW.out.trans (Touch.of_below HB3.out) (S := S) (S1 := S) (fun b _ e => e)).trans (S1 := fun b => (Value.slice pu nu cu).ownBlock = some b ∨ w3.heap.size ≤ b) (w1 := w3) ⟨hR.1.os, hR.1.tape, hR.1.output, hR.1.size, hR.1.block⟩ fun b hb e => ?_
            rcases e with e | e
            · rcases (HT.out.own.foot b e).1.1 with e3 | e3
              · exact e3
              · omega
            · have := HW.out.size; omega)
          clear hR hf hy hcl
          simp only [List.drop_succ_cons, List.drop_zero]
          go_wp2
          go_roundw
          case rel =>
            refine ⟨k + 1, _, by omega, by go_num, Lib.hid Hkk.out, Lib.hid (HTW.out.put HTW.out.foot Hy.out ?_), Lib.hid (HTo.out.trans (Touch.of_grownBy (S := fun b => b = g) (Lib.grownBy_setCell W g 2 _) (fun b e => by cases e; rfl)) fun b _ e => by subst e; exact H.out.foot)⟩
            have h1 := Hfit.out
            rw [List.length_append, List.length_take, Nat.min_eq_left (by omega : k + 1 ≤ ss.length)]
            omega
          case measure => simp [intOf]; omega
        · rfl
        · kernel_rfl
    · have hk2 : k = ss.length := by omega
      subst hk2
      generalize B + (es.length + ss.length) = L at *
      go_wp2
      go_end0
      refine ⟨⟨_, rfl⟩, u, ?_, HW.out⟩
      have h1 := HT.out
      rw [List.take_length] at h1
      rw [List.take_of_length_le HK.out]
      exact h1
end Go.Proofs.Yteellfgiejnigaa
/- Cutting and packing: walks of the document's Cut and Pack, and of Pack, Copy and Base. -/
namespace Go.Proofs.Yteellfgiejnigaa
open Go.ChangeShapes Go.WideShapes Go.ChangeAt Go.RowKit
set_option linter.unusedVariables false

theorem EsR.src {w : World} {S : Foot} {v : Value} {es : List Ent} (h : EsR w S v es) : ∃ xs, EsC w S xs es ∧ SrcR w 2 v es.length xs := by
  obtain ⟨p, c, xs, rfl, h1, h2, h3, h4, h5⟩ := h
  refine ⟨xs, h4, p, c, rfl, h4.len, h4.one, ?_⟩
  cases p with
  | none => have := h3 rfl; exact .inl ⟨rfl, by omega, this⟩
  | some a =>
    refine .inr ⟨a, rfl, fun j u hu => ?_⟩
    by_cases he : es = []
    · subst he
      have : xs = [] := List.eq_nil_of_length_eq_zero (by rw [h4.len]; rfl)
      subst this
      cases hu
    · obtain ⟨b, off, e, _, _, hc⟩ := h5 he
      cases e
      rw [plain_add]
      exact hc j u hu
theorem EsR.lo {w : World} {S : Foot} {p : Option Addr} {n c : Nat} {es : List Ent} (h : EsR w S (.slice p n c) es) {l : Nat} (hl : l ≤ es.length) : EsR w S (.slice (if c = l then p else p.map (·.add (l * 2))) (n - l) (c - l)) (es.drop l) := by
  obtain ⟨p', c', xs, e, h1, h2, h3, h4, h5⟩ := h
  cases e
  refine ⟨_, c - l, xs.drop (l * 2), by rw [List.length_drop], by rw [List.length_drop]; omega, by omega, fun e => ?_, h4.drop l, fun hne => ?_⟩
  · by_cases hcl : c = l
    · omega
    · rw [if_neg hcl] at e
      have : p = none := by simpa using e
      have := h3 this
      omega
  · have hlt : l < es.length := by
      rcases Nat.lt_or_ge l es.length with h | h
      · exact h
      · exact absurd (List.drop_eq_nil_of_le h) hne
    obtain ⟨b, off, rfl, hb, hbl, hc⟩ := h5 (by rintro rfl; simp at hlt)
    rw [if_neg (by omega)]
    refine ⟨b, off + l * 2, by simp [plain_add], hb, hbl, fun j u hu => ?_⟩
    rw [List.getElem?_drop] at hu
    rw [Nat.add_assoc]
    exact hc _ _ hu
theorem slice_lo_es {w : World} {S : Foot} {p : Option Addr} {n c : Nat} {es : List Ent} (h : EsR w S (.slice p n c) es) {l : Nat} (hl : l ≤ es.length) :
    ∃ q d, (∀ W, (Instr.sliceAt 28 (.slice p n c) (some (.int .u64 (l : Int))) none none).run Try.prog W = .ok (.slice q (n - l) d) W) ∧ EsR w S (.slice q (n - l) d) (es.drop l) := by
  have hn : n = es.length := by obtain ⟨p', c', xs, e, _⟩ := h; cases e; rfl
  exact ⟨_, _, fun W => run_slice_lo_u 28 53 Try.underlying28 2 (by kernel_rfl) p n c l (by omega) W, h.lo hl⟩
/-- A new empty row of entries. -/
def FreshE (B0 : Nat) (y : Value) (W : World) : Prop := ∃ N, y = .slice (some ⟨N, 0, none⟩) 0 0 ∧ W.ownsRow B0 53 2 y 0 []
theorem FreshE.keeps {B0 : Nat} {y : Value} {W W' : World} (h : FreshE B0 y W) (hk : Keeps W W') : FreshE B0 y W' := by
  obtain ⟨N, rfl, h⟩ := h
  refine ⟨N, rfl, h.1, ?_⟩
  rcases h.2 with h2 | ⟨g, cap, cur, hv, hg, hh, r⟩
  · exact .inl h2
  · exact .inr ⟨g, cap, cur, hv, hg, by rw [hk g (Array.getElem?_eq_some_iff.1 hh).1]; exact hh, r⟩
theorem FreshE.new {W : World} {B0 : Nat} (hB : B0 ≤ W.heap.size) : FreshE B0 (.slice (some ⟨W.heap.size, 0, none⟩) 0 0) (W.alloc (.cells #[] 53)) := ⟨_, rfl, World.ownsRow_lit W #[] 0 hB (by unfold maxLen; omega) rfl⟩
theorem esg_of_own {w : World} {B0 : Nat} {S : Foot} {v : Value} {xs : List Value} {es : List Ent} (h : w.ownsRow B0 53 2 v es.length xs) (hx : EsC w (fun b => S b ∧ b < B0) xs es) : EsG w (fun b => S b ∨ B0 ≤ b) 53 v es := by
  rcases h.2 with ⟨rfl, h0⟩ | ⟨g, cap, cur, rfl, hg, hh, h1, h2, h3, h4⟩
  · exact .inl ⟨rfl, List.eq_nil_of_length_eq_zero h0⟩
  · refine .inr ⟨g, cap, cur, rfl, .inr hg, hh, h1, h2, by omega, ?_⟩
    rw [h4]
    exact hx.mono fun b _ hb => ⟨.inl hb.1, by have := hb.2; omega⟩
theorem fresh_ents {w : World} {B0 : Nat} {ty : TypeId} {S : Foot} {y x : Value} {es : List Ent} (h : FreshE B0 y w) (hx : EsR w (fun b => S b ∧ b < B0) x es) (hl : es.length ≤ 1000000) (hB : B0 ≤ w.heap.size) :
    ∃ v' w', (Builtin.append_ #[28, 28] ty #[y, x]).run Try.prog w = .ok v' w' ∧ EsG w' (fun b => S b ∨ B0 ≤ b) 53 v' es ∧ RegT.Grow w w' := by
  obtain ⟨N, rfl, ho⟩ := h
  obtain ⟨xs, hxs, hsrc⟩ := hx.src
  obtain ⟨v', w', hr, ho', hg⟩ := run_append_fresh (P := Try.prog) (ty := ty) helE (base := B0) ho hsrc (by unfold maxLen; omega) (by omega) hB
  exact ⟨_, w', hr, esg_of_own ho' (hxs.keeps hg.block), hg⟩
theorem nil_ents {w : World} {B0 : Nat} {ty : TypeId} {S : Foot} {x : Value} {es : List Ent} (hx : EsR w (fun b => S b ∧ b < B0) x es) (hl : es.length ≤ 1000000) (hB : B0 ≤ w.heap.size) :
    ∃ v' w', (Builtin.append_ #[28, 28] ty #[.slice none 0 0, x]).run Try.prog w = .ok v' w' ∧ EsG w' (fun b => S b ∨ B0 ≤ b) 53 v' es ∧ RegT.Grow w w' := by
  obtain ⟨xs, hxs, hsrc⟩ := hx.src
  obtain ⟨v', w', hr, ho', hg⟩ := run_append_src (P := Try.prog) (ty := ty) helE (World.ownsRow_nil w B0 53 2) hsrc (by unfold maxLen; omega) (by omega) hB
  have hg' : RegT.Grow w w' := below_grown hg w.heap.size (Nat.le_refl _) (fun k e => by cases e)
  rw [List.nil_append, Nat.zero_add] at ho'
  exact ⟨_, w', hr, esg_of_own ho' (hxs.keeps hg'.block), hg'⟩
theorem termAt_lt {w : World} {S : Foot} {v : Value} {B T : Nat} {es : List Ent} (h : EsR w S v es) (hT : T < 2 ^ 64) (i : Nat) : (termAt B T es i).1 < 2 ^ 64 := by
  unfold termAt
  split
  · exact Nat.two_pow_pos 64
  · split
    · exact hT
    · rename_i h1 h2
      have hk : i - B - 1 < es.length := by omega
      obtain ⟨b, off, c, d, _, _, _, _, _, _, hlt⟩ := h.elemF (i - B - 1) hk
      show (es.getD (i - B - 1) (0, [])).1 < 2 ^ 64
      rw [getD_of_lt _ _ _ hk]; exact hlt
theorem RkAt.set0 {W : World} {S : Foot} {g B T : Nat} {v : Value} {es : List Ent} (h : RkAt W S g B T v es) {i : Nat} (hi : i + es.length < 2 ^ 64) : RkAt (W.setCell ⟨g, 0, none⟩ (.int .u64 (i : Int))) S g i T v es := by
  refine ⟨?_, h.foot, h.own.frame fun b hb => Below.heap_setCell _ _ _ _ (by simpa using hb.2), by omega, h.bT, hi⟩
  have hc := h.cells
  simp only [World.setCell, Array.getElem?_modify, hc, if_true, Option.map_some]
  rfl
theorem RkAt.set1 {W : World} {S : Foot} {g B T : Nat} {v : Value} {es : List Ent} (h : RkAt W S g B T v es) {i : Nat} (hi : i < 2 ^ 64) : RkAt (W.setCell ⟨g, 1, none⟩ (.int .u64 (i : Int))) S g B i v es := by
  refine ⟨?_, h.foot, h.own.frame fun b hb => Below.heap_setCell _ _ _ _ (by simpa using hb.2), h.bB, hi, h.fits⟩
  have hc := h.cells
  simp only [World.setCell, Array.getElem?_modify, hc, if_true, Option.map_some]
  rfl
theorem TkAt.set0 {W : World} {S : Foot} {g B T : Nat} {v : Value} {es : List Ent} (h : TkAt W S g B T v es) {i : Nat} (hi : i + es.length < 2 ^ 64) : TkAt (W.setCell ⟨g, 0, none⟩ (.int .u64 (i : Int))) S g i T v es := by
  refine ⟨?_, h.foot, h.own.frame fun b hb => Below.heap_setCell _ _ _ _ (by simpa using hb.2), by omega, h.bT, hi⟩
  have hc := h.cells
  simp only [World.setCell, Array.getElem?_modify, hc, if_true, Option.map_some]
  rfl
theorem TkAt.set1 {W : World} {S : Foot} {g B T : Nat} {v : Value} {es : List Ent} (h : TkAt W S g B T v es) {i : Nat} (hi : i < 2 ^ 64) : TkAt (W.setCell ⟨g, 1, none⟩ (.int .u64 (i : Int))) S g B i v es := by
  refine ⟨?_, h.foot, h.own.frame fun b hb => Below.heap_setCell _ _ _ _ (by simpa using hb.2), h.bB, hi, h.fits⟩
  have hc := h.cells
  simp only [World.setCell, Array.getElem?_modify, hc, if_true, Option.map_some]
  rfl
set_option maxRecDepth 100000 in
theorem rcut_no_w (S : Foot) (g B T i : Nat) (v : Value) (es : List Ent) (w : World) (h : RkAt w S g B T v es) (hi : mayI B es.length i = false) :
    Calls Try.prog 33 #[.pointer (some ⟨g, 0, none⟩), .int .u64 (i : Int)] w fun r w' => r = .returned (.int .i64 2) ∧ Below w.heap.size w w' := by
  have Hlast := Lib.hid (rlast_w S g B T v es w h)
  have c0 := h.c0
  have hi2 : i < B ∨ (¬ i < B ∧ B + es.length < i) := by unfold mayI at hi; simp at hi; omega
  generalize B + es.length = L at *
  clear h hi
  rcases hi2 with h1 | ⟨h1, h2⟩
  · have e1 : decide (i < B) = true := by simp; omega
    go_enter Try.func33, Try.ntmps33
    go_wp2
    go_ret
    exact ⟨rfl, Below.refl _ _⟩
  · have e1 : decide (i < B) = false := by simp; omega
    have e2 : decide (L < i) = true := by simp; omega
    go_enter Try.func33, Try.ntmps33
    go_wp2_with (go_at_call 80; refine (Hlast.out).mono ?_; rintro r w1 ⟨rfl, hB⟩; have HB := Lib.hid hB; clear hB)
    go_ret
    exact ⟨rfl, HB.out⟩
set_option maxRecDepth 100000 in
theorem rpack_no_w (S : Foot) (g B T i : Nat) (v : Value) (es : List Ent) (w : World) (h : RkAt w S g B T v es) (hi : mayI B es.length i = false) :
    Calls Try.prog 35 #[.pointer (some ⟨g, 0, none⟩), .int .u64 (i : Int)] w fun r w' => r = .returned (.int .i64 2) ∧ Below w.heap.size w w' := by
  have Hlast := Lib.hid (rlast_w S g B T v es w h)
  have c0 := h.c0
  have hi2 : i < B ∨ (¬ i < B ∧ B + es.length < i) := by unfold mayI at hi; simp at hi; omega
  generalize B + es.length = L at *
  clear h hi
  rcases hi2 with h1 | ⟨h1, h2⟩
  · have e1 : decide (i < B) = true := by simp; omega
    go_enter Try.func35, Try.ntmps35
    go_wp2
    go_ret
    exact ⟨rfl, Below.refl _ _⟩
  · have e1 : decide (i < B) = false := by simp; omega
    have e2 : decide (L < i) = true := by simp; omega
    go_enter Try.func35, Try.ntmps35
    go_wp2_with (go_at_call 80; refine (Hlast.out).mono ?_; rintro r w1 ⟨rfl, hB⟩; have HB := Lib.hid hB; clear hB)
    go_ret
    exact ⟨rfl, HB.out⟩
set_option maxRecDepth 100000 in
set_option maxHeartbeats 1600000 in
theorem rcut_ok_w (S : Foot) (g B T i : Nat) (v : Value) (es : List Ent) (w : World) (h : RkAt w S g B T v es) (hi : mayI B es.length i = true) (hn : es.length ≤ 1000000) :
    Calls Try.prog 33 #[.pointer (some ⟨g, 0, none⟩), .int .u64 (i : Int)] w fun r w' => r = .returned (.int .i64 0) ∧ (∃ v', RkAt w' (fun b => S b ∨ w.heap.size ≤ b) g B T v' (es.take (i - B))) ∧ Touch S w w' := by
  have Hlast := Lib.hid (rlast_w S g B T v es w h)
  have H := Lib.hid (h.mono (S' := fun b => S b ∧ b < w.heap.size) fun b hb hs => ⟨hs, hb⟩)
  have HS := Lib.hid h.foot
  obtain ⟨p, c, rfl⟩ := h.own.form
  have hcap : es.length ≤ c := by obtain ⟨p, c', xs, e, q, _⟩ := h.own.rd; cases e; exact q
  have hin : B ≤ i ∧ i ≤ B + es.length := by unfold mayI at hi; simpa using hi
  obtain ⟨n, hnn⟩ : ∃ n, n = i - B := ⟨_, rfl⟩
  rw [← hnn]
  have hfit := h.fits
  have Hfit := Lib.hid hfit
  have e1 : IntKind.u64.wrap ((i : Int) - (B : Int)) = (n : Int) := by rw [IntWalk.u64_in _ (by omega)]; omega
  have hsl := fun x => run_slice_hi_u 28 53 Try.underlying28 2 (by kernel_rfl) p es.length c n (by omega) x
  have Hn := Lib.hid (show n ≤ es.length by omega)
  have Hl6 := Lib.hid hn
  have d1 : decide (i < B) = false := by simp; omega
  have d2 : decide (B + es.length < i) = false := by simp; omega
  have c0 := h.c0
  generalize B + es.length = L at *
  clear h hi hin hcap hnn hfit hn
  go_enter Try.func33, Try.ntmps33
  go_wp2_with (go_at_call 80; refine (Hlast.out).mono ?_; rintro r w1 ⟨rfl, hB⟩; have H1 := Lib.hid (H.out.keeps hB.block); have HB := Lib.hid hB; clear hB Hlast c0)
  have hsz1 : w.heap.size ≤ w1.heap.size := HB.out.size
  have Hg0 := Lib.hid (fun (W : World) (hR : RegT.Grow w1.drew W) => (World.cell?_of_block (w := w1) (a := ⟨g, 0, none⟩) (hR.block g H1.out.lt)).trans H1.out.c0)
  have Hg2 := Lib.hid (fun (W : World) (hR : RegT.Grow w1.drew W) => (World.cell?_of_block (w := w1) (a := ⟨g, 2, none⟩) (hR.block g H1.out.lt)).trans H1.out.c2)
  apply RegT.wp_region_T rfl 33 16 rfl (by kernel_rfl) RegT.Grow RegT.Grow.refl RegT.Grow.trans
  · apply RegT.T_pure rfl rfl rfl
    · intro W hR; go_simp; rfl
    simp only [List.set_cons_succ, List.set_cons_zero, Nat.reduceAdd]
    apply RegT.T_predC rfl rfl rfl 13 (FreshE w1.heap.size) (fun _ _ h => h) (fun y x z hR h => h.keeps hR.block)
    · intro W hR hf
      have hsz : w1.heap.size ≤ W.heap.size := hR.size
      clear hR hf
      go_simp
      exact RegT.OpOK_value ⟨FreshE.new hsz, (Below.refl _ _).alloc (Nat.le_refl _) _⟩
    intro v1
    simp only [List.set_cons_succ, List.set_cons_zero, Nat.reduceAdd]
    iterate 2
      apply RegT.T_pure rfl rfl rfl
      · intro W hR; go_simp; rfl
      simp only [List.set_cons_succ, List.set_cons_zero, Nat.reduceAdd]
    apply RegT.T_pure (v := .pointer (some ⟨g, 2, none⟩)) rfl rfl rfl
    · intro W hR; clear hR; go_simp
    simp only [List.set_cons_succ, List.set_cons_zero, Nat.reduceAdd]
    apply RegT.T_pure (v := .slice p es.length c) rfl rfl rfl
    · intro W hR
      have hc := Hg2.out W hR
      clear hR
      go_simp
    simp only [List.set_cons_succ, List.set_cons_zero, Nat.reduceAdd]
    iterate 3
      apply RegT.T_pure rfl rfl rfl
      · intro W hR; go_simp; rfl
      simp only [List.set_cons_succ, List.set_cons_zero, Nat.reduceAdd]
    apply RegT.T_pure (v := .pointer (some ⟨g, 0, none⟩)) rfl rfl rfl
    · intro W hR; clear hR; go_simp
    simp only [List.set_cons_succ, List.set_cons_zero, Nat.reduceAdd]
    apply RegT.T_pure (v := .int .u64 (B : Int)) rfl rfl rfl
    · intro W hR
      have hc := Hg0.out W hR
      clear hR
      go_simp
    simp only [List.set_cons_succ, List.set_cons_zero, Nat.reduceAdd]
    apply RegT.T_pure (v := .int .u64 (n : Int)) rfl rfl rfl
    · intro W hR; clear hR; go_simp
    simp only [List.set_cons_succ, List.set_cons_zero, Nat.reduceAdd]
    apply RegT.T_pure (v := .slice p n c) rfl rfl rfl
    · intro W hR; clear hR; go_simp
    simp only [List.set_cons_succ, List.set_cons_zero, Nat.reduceAdd]
    apply RegT.T_pred rfl rfl rfl (fun y W => EsG W (fun b => (S b ∨ w.heap.size ≤ b) ∧ b ≠ g) 53 y (es.take n)) (fun _ _ h => h) (fun y x z hR h => h.keeps hR.block)
    · intro W hR hf
      have h1 : FreshE w1.heap.size v1 W := hf _ (.head _) (by kernel_rfl) (.inr rfl)
      have hx := ((H1.out.own.rd.hi Hn.out).keeps ((Keeps.refl w1).drew.trans hR.block)).mono (S' := fun b => ((S b ∧ b < w.heap.size) ∧ b ≠ g) ∧ b < w1.heap.size) fun b _ hb => ⟨hb, by have := hb.1.2; omega⟩
      obtain ⟨v', w', hr, ho, hg⟩ := fresh_ents (ty := 28) h1 hx (by have := Hl6.out; rw [List.length_take]; omega) hR.size
      exact append_ok (.tmp 18) (.tmp 29) rfl rfl rfl hr ⟨ho.mono fun b _ hb => by
        rcases hb with hb | hb
        · exact ⟨.inl hb.1.1, hb.2⟩
        · have hgl := H1.out.lt
          exact ⟨.inr (by omega), by omega⟩, hg⟩
    intro v13
    simp only [List.set_cons_succ, List.set_cons_zero, Nat.reduceAdd]
    apply RegT.T_pure rfl rfl rfl
    · intro W hR; go_simp; rfl
    simp only [List.set_cons_succ, List.set_cons_zero, Nat.reduceAdd]
    apply RegT.T_pure (v := .pointer (some ⟨g, 2, none⟩)) rfl rfl rfl
    · intro W hR; clear hR; go_simp
    simp only [List.set_cons_succ, List.set_cons_zero, Nat.reduceAdd]
    refine RegT.T_tail (fun W hR hf => ?_)
    have hy : EsG W (fun b => (S b ∨ w.heap.size ≤ b) ∧ b ≠ g) 53 v13 (es.take n) := hf _ (.head _) (.inl rfl)
    obtain ⟨p8, n8, c8, rfl⟩ : ∃ p n c, v13 = .slice p n c := by obtain ⟨p, c, e⟩ := hy.form; exact ⟨p, _, c, e⟩
    have Hy := Lib.hid hy
    have HTW := Lib.hid (H1.out.keeps ((Keeps.refl w1).drew.trans hR.block))
    have hc2 := HTW.out.c2
    have hf2 := HTW.out.frozen 2
    have HTo := Lib.hid (HB.out.trans (((Below.refl w1.heap.size w1).drew.trans hR).mono HB.out.size))
    clear hR hf hy
    simp only [List.drop_succ_cons, List.drop_zero]
    go_wp2
    go_ret
    refine ⟨rfl, ⟨_, HTW.out.put (.inl HS.out) Hy.out (by have := HTW.out.fits; have := Hn.out; rw [List.length_take]; omega)⟩, ?_⟩
    exact (Touch.of_below HTo.out).trans (Touch.of_grownBy (S := S) (Lib.grownBy_setCell W g 2 _) (fun b e => by cases e; exact HS.out)) (fun b _ e => e)
  · rfl
  · kernel_rfl
end Go.Proofs.Yteellfgiejnigaa
/- Packing, copying: walks of the document's Pack, and of Pack, Copy and Base. -/
namespace Go.Proofs.Yteellfgiejnigaa
open Go.ChangeShapes Go.WideShapes Go.ChangeAt Go.RowKit
set_option linter.unusedVariables false

set_option maxRecDepth 100000 in
set_option maxHeartbeats 1600000 in
theorem rpack_ok_w (S : Foot) (g B T i : Nat) (v : Value) (es : List Ent) (w : World) (h : RkAt w S g B T v es) (hi : mayI B es.length i = true) (hn : es.length ≤ 1000000) :
    Calls Try.prog 35 #[.pointer (some ⟨g, 0, none⟩), .int .u64 (i : Int)] w fun r w' => r = .returned (.int .i64 0) ∧ (∃ v', RkAt w' (fun b => S b ∨ w.heap.size ≤ b) g i (termAt B T es i).1 v' (es.drop (i - B))) ∧ Touch S w w' := by
  have Hlast := Lib.hid (rlast_w S g B T v es w h)
  have H := Lib.hid (h.mono (S' := fun b => S b ∧ b < w.heap.size) fun b hb hs => ⟨hs, hb⟩)
  have HS := Lib.hid h.foot
  obtain ⟨p, c, rfl⟩ := h.own.form
  have hin : B ≤ i ∧ i ≤ B + es.length := by unfold mayI at hi; simpa using hi
  obtain ⟨n, hnn⟩ : ∃ n, n = i - B := ⟨_, rfl⟩
  rw [← hnn]
  have hfit := h.fits
  have hi64 : i < 2 ^ 64 := by omega
  have e1 : IntKind.u64.wrap ((i : Int) - (B : Int)) = (n : Int) := by rw [IntWalk.u64_in _ (by omega)]; omega
  have hnl : n ≤ es.length := by omega
  have hx0 := H.out.own.rd
  obtain ⟨q, d, hsl, hlo⟩ := slice_lo_es hx0 hnl
  have Hn := Lib.hid (And.intro hnl (show i + (es.length - n) < 2 ^ 64 by omega))
  have Hl6 := Lib.hid hn
  have Hlo := Lib.hid hlo
  have d1 : decide (i < B) = false := by simp; omega
  have d2 : decide (B + es.length < i) = false := by simp; omega
  have c0 := h.c0
  have Htm := Lib.hid (fun W (hW : RkAt W (fun b => S b ∧ b < w.heap.size) g B T (.slice p es.length c) es) => rtermat_w _ g B T _ es i W hW hn hi64)
  have htl := termAt_lt (B := B) (T := T) h.own.rd h.bT i
  generalize (termAt B T es i).2 = tb at *
  generalize (termAt B T es i).1 = t at *
  have Htl := Lib.hid htl
  generalize B + es.length = L at *
  clear h hi hin hnn hfit hn htl hx0 hlo hnl
  go_enter Try.func35, Try.ntmps35
  go_wp2_with (first
    | (go_at_call 80; refine (Hlast.out).mono ?_; rintro r w1 ⟨rfl, hB⟩; have H1 := Lib.hid (H.out.keeps hB.block); have HB := Lib.hid hB; clear hB Hlast c0)
    | (go_at_call 38; refine (Htm.out _ H1.out).mono ?_; rintro r w2 ⟨rfl, hB⟩; have H2 := Lib.hid (H1.out.keeps hB.block); have HB2 := Lib.hid (HB.out.trans (hB.mono HB.out.size)); clear hB))
  have hsz2 : w.heap.size ≤ w2.heap.size := HB2.out.size
  have Hg0 := Lib.hid (fun (W : World) (hR : RegT.Grow w2.drew W) => (World.cell?_of_block (w := w2) (a := ⟨g, 0, none⟩) (hR.block g H2.out.lt)).trans H2.out.c0)
  have Hg1 := Lib.hid (fun (W : World) (hR : RegT.Grow w2.drew W) => (World.cell?_of_block (w := w2) (a := ⟨g, 1, none⟩) (hR.block g H2.out.lt)).trans H2.out.c1)
  have Hg2 := Lib.hid (fun (W : World) (hR : RegT.Grow w2.drew W) => (World.cell?_of_block (w := w2) (a := ⟨g, 2, none⟩) (hR.block g H2.out.lt)).trans H2.out.c2)
  apply RegT.wp_region_T rfl 49 16 rfl (by kernel_rfl) RegT.Grow RegT.Grow.refl RegT.Grow.trans
  · apply RegT.T_pure rfl rfl rfl
    · intro W hR; go_simp; rfl
    simp only [List.set_cons_succ, List.set_cons_zero, Nat.reduceAdd]
    apply RegT.T_predC rfl rfl rfl 13 (FreshE w2.heap.size) (fun _ _ h => h) (fun y x z hR h => h.keeps hR.block)
    · intro W hR hf
      have hsz : w2.heap.size ≤ W.heap.size := hR.size
      clear hR hf
      go_simp
      exact RegT.OpOK_value ⟨FreshE.new hsz, (Below.refl _ _).alloc (Nat.le_refl _) _⟩
    intro v1
    simp only [List.set_cons_succ, List.set_cons_zero, Nat.reduceAdd]
    iterate 2
      apply RegT.T_pure rfl rfl rfl
      · intro W hR; go_simp; rfl
      simp only [List.set_cons_succ, List.set_cons_zero, Nat.reduceAdd]
    apply RegT.T_pure (v := .pointer (some ⟨g, 2, none⟩)) rfl rfl rfl
    · intro W hR; clear hR; go_simp
    simp only [List.set_cons_succ, List.set_cons_zero, Nat.reduceAdd]
    apply RegT.T_pure (v := .slice p es.length c) rfl rfl rfl
    · intro W hR
      have hc := Hg2.out W hR
      clear hR
      go_simp
    simp only [List.set_cons_succ, List.set_cons_zero, Nat.reduceAdd]
    iterate 3
      apply RegT.T_pure rfl rfl rfl
      · intro W hR; go_simp; rfl
      simp only [List.set_cons_succ, List.set_cons_zero, Nat.reduceAdd]
    apply RegT.T_pure (v := .pointer (some ⟨g, 0, none⟩)) rfl rfl rfl
    · intro W hR; clear hR; go_simp
    simp only [List.set_cons_succ, List.set_cons_zero, Nat.reduceAdd]
    apply RegT.T_pure (v := .int .u64 (B : Int)) rfl rfl rfl
    · intro W hR
      have hc := Hg0.out W hR
      clear hR
      go_simp
    simp only [List.set_cons_succ, List.set_cons_zero, Nat.reduceAdd]
    apply RegT.T_pure (v := .int .u64 (n : Int)) rfl rfl rfl
    · intro W hR; clear hR; go_simp
    simp only [List.set_cons_succ, List.set_cons_zero, Nat.reduceAdd]
    apply RegT.T_pure (v := .slice q (es.length - n) d) rfl rfl rfl
    · intro W hR; clear hR; go_simp
    simp only [List.set_cons_succ, List.set_cons_zero, Nat.reduceAdd]
    apply RegT.T_pred rfl rfl rfl (fun y W => EsG W (fun b => (S b ∨ w.heap.size ≤ b) ∧ b ≠ g) 53 y (es.drop n)) (fun _ _ h => h) (fun y x z hR h => h.keeps hR.block)
    · intro W hR hf
      have h1 : FreshE w2.heap.size v1 W := hf _ (.head _) (by kernel_rfl) (.inr rfl)
      have hx := (Hlo.out.keeps (Keeps.trans HB2.out.block ((Keeps.refl w2).drew.trans hR.block))).mono (S' := fun b => ((S b ∧ b < w.heap.size) ∧ b ≠ g) ∧ b < w2.heap.size) fun b _ hb => ⟨hb, by have := hb.1.2; omega⟩
      obtain ⟨v', w', hr, ho, hg⟩ := fresh_ents (ty := 28) h1 hx (by have := Hl6.out; rw [List.length_drop]; omega) hR.size
      exact append_ok (.tmp 26) (.tmp 37) rfl rfl rfl hr ⟨ho.mono fun b _ hb => by
        rcases hb with hb | hb
        · exact ⟨.inl hb.1.1, hb.2⟩
        · have hgl := H2.out.lt
          exact ⟨.inr (by omega), by omega⟩, hg⟩
    intro vA
    simp only [List.set_cons_succ, List.set_cons_zero, Nat.reduceAdd]
    apply RegT.T_pure rfl rfl rfl
    · intro W hR; go_simp; rfl
    simp only [List.set_cons_succ, List.set_cons_zero, Nat.reduceAdd]
    apply RegT.T_pure (v := .pointer (some ⟨g, 2, none⟩)) rfl rfl rfl
    · intro W hR; clear hR; go_simp
    simp only [List.set_cons_succ, List.set_cons_zero, Nat.reduceAdd]
    refine RegT.T_tail (fun W hR hf => ?_)
    have hy : EsG W (fun b => (S b ∨ w.heap.size ≤ b) ∧ b ≠ g) 53 vA (es.drop n) := hf _ (.head _) (.inl rfl)
    obtain ⟨p8, n8, c8, rfl⟩ : ∃ p n c, vA = .slice p n c := by obtain ⟨p, c, e⟩ := hy.form; exact ⟨p, _, c, e⟩
    have HTW := Lib.hid (H2.out.keeps ((Keeps.refl w2).drew.trans hR.block))
    have hc2 := HTW.out.c2
    have hf2 := HTW.out.frozen 2
    have HP := Lib.hid (HTW.out.put (S' := fun b => S b ∨ w.heap.size ≤ b) (.inl HS.out) hy (by have := HTW.out.fits; rw [List.length_drop]; omega))
    have hc0 := HP.out.c0
    have hf0 := HP.out.frozen 0
    have HP0 := Lib.hid (HP.out.set0 (i := i) (by have := Hn.out.2; rw [List.length_drop]; omega))
    have hc1 := HP0.out.c1
    have hf1 := HP0.out.frozen 1
    have HP1 := Lib.hid (HP0.out.set1 (i := t) Htl.out)
    have HTo := Lib.hid (HB2.out.trans (((Below.refl w2.heap.size w2).drew.trans hR).mono HB2.out.size))
    clear hR hf hy
    simp only [List.drop_succ_cons, List.drop_zero]
    go_wp2
    go_ret
    refine ⟨rfl, ⟨_, HP1.out⟩, ?_⟩
    exact ((((Touch.of_below HTo.out).trans (Touch.of_grownBy (S := S) (Lib.grownBy_setCell W g 2 _) (fun b e => by cases e; exact HS.out)) (fun b _ e => e)).trans (Touch.of_grownBy (S := S) (Lib.grownBy_setCell _ g 0 _) (fun b e => by cases e; exact HS.out)) (fun b _ e => e)).trans (Touch.of_grownBy (S := S) (Lib.grownBy_setCell _ g 1 _) (fun b e => by cases e; exact HS.out)) (fun b _ e => e))
  · rfl
  · kernel_rfl
set_option maxRecDepth 100000 in
set_option maxHeartbeats 1600000 in
theorem pack_ok_w (S : Foot) (g B T i : Nat) (v : Value) (es : List Ent) (w : World) (h : TkAt w S g B T v es) (hi : mayI B es.length i = true) (hn : es.length ≤ 1000000) :
    Calls Try.prog 34 #[.pointer (some ⟨g, 0, none⟩), .int .u64 (i : Int)] w fun r w' => r = .returned (.int .i64 0) ∧ (∃ v', TkAt w' (fun b => S b ∨ w.heap.size ≤ b) g i (termAt B T es i).1 v' (es.drop (i - B))) ∧ Touch S w w' := by
  have Hlast := Lib.hid (may_w S g B T i v es w h)
  have H := Lib.hid (h.mono (S' := fun b => S b ∧ b < w.heap.size) fun b hb hs => ⟨hs, hb⟩)
  have HS := Lib.hid h.foot
  obtain ⟨p, c, rfl⟩ := h.own.form
  have hin : B ≤ i ∧ i ≤ B + es.length := by unfold mayI at hi; simpa using hi
  obtain ⟨n, hnn⟩ : ∃ n, n = i - B := ⟨_, rfl⟩
  rw [← hnn]
  have hfit := h.fits
  have hi64 : i < 2 ^ 64 := by omega
  have e1 : IntKind.u64.wrap ((i : Int) - (B : Int)) = (n : Int) := by rw [IntWalk.u64_in _ (by omega)]; omega
  have hnl : n ≤ es.length := by omega
  have hx0 := H.out.own.rd
  obtain ⟨q, d, hsl, hlo⟩ := slice_lo_es hx0 hnl
  have Hn := Lib.hid (And.intro hnl (show i + (es.length - n) < 2 ^ 64 by omega))
  have Hl6 := Lib.hid hn
  have Hlo := Lib.hid hlo
  have d1 : decide (i < B) = false := by simp; omega
  have d2 : decide (B + es.length < i) = false := by simp; omega
  have c0 := h.c0
  have Htm := Lib.hid (fun W (hW : TkAt W (fun b => S b ∧ b < w.heap.size) g B T (.slice p es.length c) es) => termat_w _ g B T _ es i W hW hn hi64)
  have htl := termAt_lt (B := B) (T := T) h.own.rd h.bT i
  generalize (termAt B T es i).2 = tb at *
  generalize (termAt B T es i).1 = t at *
  have Htl := Lib.hid htl
  unfold mayE at Hlast
  rw [hi] at Hlast
  simp only [if_true] at Hlast
  clear h hi hin hnn hfit hn htl hx0 hlo hnl
  go_enter Try.func34, Try.ntmps34
  go_wp2_with (first
    | (go_at_call 79; refine (Hlast.out).mono ?_; rintro r w1 ⟨rfl, hB⟩; have H1 := Lib.hid (H.out.keeps hB.block); have HB := Lib.hid hB; clear hB Hlast c0)
    | (go_at_call 28; refine (Htm.out _ H1.out).mono ?_; rintro r w2 ⟨rfl, hB⟩; have H2 := Lib.hid (H1.out.keeps hB.block); have HB2 := Lib.hid (HB.out.trans (hB.mono HB.out.size)); clear hB))
  have hsz2 : w.heap.size ≤ w2.heap.size := HB2.out.size
  have Hg0 := Lib.hid (fun (W : World) (hR : RegT.Grow w2.drew W) => (World.cell?_of_block (w := w2) (a := ⟨g, 0, none⟩) (hR.block g H2.out.lt)).trans H2.out.c0)
  have Hg1 := Lib.hid (fun (W : World) (hR : RegT.Grow w2.drew W) => (World.cell?_of_block (w := w2) (a := ⟨g, 1, none⟩) (hR.block g H2.out.lt)).trans H2.out.c1)
  have Hg2 := Lib.hid (fun (W : World) (hR : RegT.Grow w2.drew W) => (World.cell?_of_block (w := w2) (a := ⟨g, 2, none⟩) (hR.block g H2.out.lt)).trans H2.out.c2)
  apply RegT.wp_region_T rfl 43 15 rfl (by kernel_rfl) RegT.Grow RegT.Grow.refl RegT.Grow.trans
  · iterate 3
      apply RegT.T_pure rfl rfl rfl
      · intro W hR; go_simp; rfl
      simp only [List.set_cons_succ, List.set_cons_zero, Nat.reduceAdd]
    apply RegT.T_pure (v := .pointer (some ⟨g, 2, none⟩)) rfl rfl rfl
    · intro W hR; clear hR; go_simp
    simp only [List.set_cons_succ, List.set_cons_zero, Nat.reduceAdd]
    apply RegT.T_pure (v := .slice p es.length c) rfl rfl rfl
    · intro W hR
      have hc := Hg2.out W hR
      clear hR
      go_simp
    simp only [List.set_cons_succ, List.set_cons_zero, Nat.reduceAdd]
    iterate 3
      apply RegT.T_pure rfl rfl rfl
      · intro W hR; go_simp; rfl
      simp only [List.set_cons_succ, List.set_cons_zero, Nat.reduceAdd]
    apply RegT.T_pure (v := .pointer (some ⟨g, 0, none⟩)) rfl rfl rfl
    · intro W hR; clear hR; go_simp
    simp only [List.set_cons_succ, List.set_cons_zero, Nat.reduceAdd]
    apply RegT.T_pure (v := .int .u64 (B : Int)) rfl rfl rfl
    · intro W hR
      have hc := Hg0.out W hR
      clear hR
      go_simp
    simp only [List.set_cons_succ, List.set_cons_zero, Nat.reduceAdd]
    apply RegT.T_pure (v := .int .u64 (n : Int)) rfl rfl rfl
    · intro W hR; clear hR; go_simp
    simp only [List.set_cons_succ, List.set_cons_zero, Nat.reduceAdd]
    apply RegT.T_pure (v := .slice q (es.length - n) d) rfl rfl rfl
    · intro W hR; clear hR; go_simp
    simp only [List.set_cons_succ, List.set_cons_zero, Nat.reduceAdd]
    apply RegT.T_pred rfl rfl rfl (fun y W => EsG W (fun b => (S b ∨ w.heap.size ≤ b) ∧ b ≠ g) 53 y (es.drop n)) (fun _ _ h => h) (fun y x z hR h => h.keeps hR.block)
    · intro W hR hf
      have hx := (Hlo.out.keeps (Keeps.trans HB2.out.block ((Keeps.refl w2).drew.trans hR.block))).mono (S' := fun b => ((S b ∧ b < w.heap.size) ∧ b ≠ g) ∧ b < w2.heap.size) fun b _ hb => ⟨hb, by have := hb.1.2; omega⟩
      obtain ⟨v', w', hr, ho, hg⟩ := nil_ents (ty := 28) (B0 := w2.heap.size) hx (by have := Hl6.out; rw [List.length_drop]; omega) hR.size
      exact append_ok (.const (.slice none 0 0)) (.tmp 30) rfl rfl rfl hr ⟨ho.mono fun b _ hb => by
        rcases hb with hb | hb
        · exact ⟨.inl hb.1.1, hb.2⟩
        · have hgl := H2.out.lt
          exact ⟨.inr (by omega), by omega⟩, hg⟩
    intro vA
    simp only [List.set_cons_succ, List.set_cons_zero, Nat.reduceAdd]
    apply RegT.T_pure rfl rfl rfl
    · intro W hR; go_simp; rfl
    simp only [List.set_cons_succ, List.set_cons_zero, Nat.reduceAdd]
    apply RegT.T_pure (v := .pointer (some ⟨g, 2, none⟩)) rfl rfl rfl
    · intro W hR; clear hR; go_simp
    simp only [List.set_cons_succ, List.set_cons_zero, Nat.reduceAdd]
    refine RegT.T_tail (fun W hR hf => ?_)
    have hy : EsG W (fun b => (S b ∨ w.heap.size ≤ b) ∧ b ≠ g) 53 vA (es.drop n) := hf _ (.head _) (.inl rfl)
    obtain ⟨p8, n8, c8, rfl⟩ : ∃ p n c, vA = .slice p n c := by obtain ⟨p, c, e⟩ := hy.form; exact ⟨p, _, c, e⟩
    have HTW := Lib.hid (H2.out.keeps ((Keeps.refl w2).drew.trans hR.block))
    have hc2 := HTW.out.c2
    have hf2 := HTW.out.frozen 2
    have HP := Lib.hid (HTW.out.put (S' := fun b => S b ∨ w.heap.size ≤ b) (.inl HS.out) hy (by have := HTW.out.fits; rw [List.length_drop]; omega))
    have hc0 := HP.out.c0
    have hf0 := HP.out.frozen 0
    have HP0 := Lib.hid (HP.out.set0 (i := i) (by have := Hn.out.2; rw [List.length_drop]; omega))
    have hc1 := HP0.out.c1
    have hf1 := HP0.out.frozen 1
    have HP1 := Lib.hid (HP0.out.set1 (i := t) Htl.out)
    have HTo := Lib.hid (HB2.out.trans (((Below.refl w2.heap.size w2).drew.trans hR).mono HB2.out.size))
    clear hR hf hy
    simp only [List.drop_succ_cons, List.drop_zero]
    go_wp2
    go_ret
    refine ⟨rfl, ⟨_, HP1.out⟩, ?_⟩
    exact ((((Touch.of_below HTo.out).trans (Touch.of_grownBy (S := S) (Lib.grownBy_setCell W g 2 _) (fun b e => by cases e; exact HS.out)) (fun b _ e => e)).trans (Touch.of_grownBy (S := S) (Lib.grownBy_setCell _ g 0 _) (fun b e => by cases e; exact HS.out)) (fun b _ e => e)).trans (Touch.of_grownBy (S := S) (Lib.grownBy_setCell _ g 1 _) (fun b e => by cases e; exact HS.out)) (fun b _ e => e))
  · rfl
  · kernel_rfl
set_option maxRecDepth 100000 in
theorem pack_no_w (S : Foot) (g B T i : Nat) (v : Value) (es : List Ent) (w : World) (h : TkAt w S g B T v es) (hi : mayI B es.length i = false) :
    Calls Try.prog 34 #[.pointer (some ⟨g, 0, none⟩), .int .u64 (i : Int)] w fun r w' => r = .returned (.int .i64 2) ∧ Below w.heap.size w w' := by
  have HM := Lib.hid (may_w S g B T i v es w h)
  unfold mayE at HM
  rw [hi] at HM
  simp only [Bool.false_eq_true, if_false] at HM
  clear h hi
  go_enter Try.func34, Try.ntmps34
  go_wp2_with (go_at_call 79; refine (HM.out).mono ?_; rintro r w1 ⟨rfl, hB⟩; have HB := Lib.hid hB; clear hB)
  go_ret
  exact ⟨rfl, HB.out⟩
set_option maxRecDepth 100000 in
theorem base_w (S : Foot) (g B T : Nat) (v : Value) (es : List Ent) (w : World) (h : TkAt w S g B T v es) :
    Calls Try.prog 42 #[.pointer (some ⟨g, 0, none⟩)] w fun r w' => r = .returned (.tuple #[.int .u64 (B : Int), .int .u64 (T : Int)]) ∧ Below w.heap.size w w' := by
  have c0 := h.c0
  have c1 := h.c1
  clear h
  go_enter Try.func42, Try.ntmps42
  go_wp2
  go_quiet (fail)
  go_wp2
  go_ret2
  exact ⟨rfl, ⟨rfl, rfl, rfl, Nat.le_refl _, fun _ _ => rfl⟩⟩
/-- A new track. -/
def NewTk (B0 B T : Nat) (es : List Ent) (y : Value) (W : World) : Prop := ∃ N v', y = .pointer (some ⟨N, 0, none⟩) ∧ B0 ≤ N ∧ TkAt W (fun b => B0 ≤ b) N B T v' es
theorem NewTk.keeps {B0 B T : Nat} {es : List Ent} {y : Value} {W W' : World} (h : NewTk B0 B T es y W) (hk : Keeps W W') : NewTk B0 B T es y W' := by
  obtain ⟨N, v', e, hN, ht⟩ := h; exact ⟨N, v', e, hN, ht.keeps hk⟩
set_option maxRecDepth 100000 in
set_option maxHeartbeats 1600000 in
theorem copy_w (S : Foot) (g B T : Nat) (v : Value) (es : List Ent) (w : World) (h : TkAt w S g B T v es) (hn : es.length ≤ 1000000) (hl : ∀ e ∈ es, e.2.length ≤ 1000000) :
    Calls Try.prog 39 #[.pointer (some ⟨g, 0, none⟩)] w fun r w' => ∃ N v', r = .returned (.pointer (some ⟨N, 0, none⟩)) ∧ w.heap.size ≤ N ∧ TkAt w' (fun b => w.heap.size ≤ b) N B T v' es ∧ Below w.heap.size w w' := by
  have H := Lib.hid h
  have hfit := h.fits
  have Hnew := Lib.hid (fun W (hW : EsR W (fun b => S b ∧ b ≠ g) v es) => new_w _ B T v es W h.bB h.bT hW hn hl)
  rw [List.take_of_length_le (by omega)] at Hnew
  clear h hfit hn hl
  go_enter Try.func39, Try.ntmps39
  go_wp2
  have Hg0 := Lib.hid (fun (W : World) (hR : RegT.Grow w.drew W) => (World.cell?_of_block (w := w) (a := ⟨g, 0, none⟩) (hR.block g H.out.lt)).trans H.out.c0)
  have Hg1 := Lib.hid (fun (W : World) (hR : RegT.Grow w.drew W) => (World.cell?_of_block (w := w) (a := ⟨g, 1, none⟩) (hR.block g H.out.lt)).trans H.out.c1)
  have Hg2 := Lib.hid (fun (W : World) (hR : RegT.Grow w.drew W) => (World.cell?_of_block (w := w) (a := ⟨g, 2, none⟩) (hR.block g H.out.lt)).trans H.out.c2)
  apply RegT.wp_region_T rfl 18 13 rfl (by kernel_rfl) RegT.Grow RegT.Grow.refl RegT.Grow.trans
  · iterate 2
      apply RegT.T_pure rfl rfl rfl
      · intro W hR; go_simp; rfl
      simp only [List.set_cons_succ, List.set_cons_zero, Nat.reduceAdd]
    apply RegT.T_pure (v := .pointer (some ⟨g, 0, none⟩)) rfl rfl rfl
    · intro W hR; clear hR; go_simp
    simp only [List.set_cons_succ, List.set_cons_zero, Nat.reduceAdd]
    apply RegT.T_pure (v := .int .u64 (B : Int)) rfl rfl rfl
    · intro W hR
      have hc := Hg0.out W hR
      clear hR
      go_simp
    simp only [List.set_cons_succ, List.set_cons_zero, Nat.reduceAdd]
    iterate 2
      apply RegT.T_pure rfl rfl rfl
      · intro W hR; go_simp; rfl
      simp only [List.set_cons_succ, List.set_cons_zero, Nat.reduceAdd]
    apply RegT.T_pure (v := .pointer (some ⟨g, 1, none⟩)) rfl rfl rfl
    · intro W hR; clear hR; go_simp
    simp only [List.set_cons_succ, List.set_cons_zero, Nat.reduceAdd]
    apply RegT.T_pure (v := .int .u64 (T : Int)) rfl rfl rfl
    · intro W hR
      have hc := Hg1.out W hR
      clear hR
      go_simp
    simp only [List.set_cons_succ, List.set_cons_zero, Nat.reduceAdd]
    iterate 2
      apply RegT.T_pure rfl rfl rfl
      · intro W hR; go_simp; rfl
      simp only [List.set_cons_succ, List.set_cons_zero, Nat.reduceAdd]
    apply RegT.T_pure (v := .pointer (some ⟨g, 2, none⟩)) rfl rfl rfl
    · intro W hR; clear hR; go_simp
    simp only [List.set_cons_succ, List.set_cons_zero, Nat.reduceAdd]
    apply RegT.T_pure (v := v) rfl rfl rfl
    · intro W hR
      have hc := Hg2.out W hR
      clear hR
      go_simp
    simp only [List.set_cons_succ, List.set_cons_zero, Nat.reduceAdd]
    apply RegT.T_pred rfl rfl rfl (NewTk w.heap.size B T es) (fun _ _ h => h) (fun y x z hR h => h.keeps hR.block)
    · intro W hR hf
      have hsz : w.heap.size ≤ W.heap.size := hR.size
      have Hc := Lib.hid (Hnew.out W (H.out.own.rd.keeps ((Keeps.refl w).drew.trans hR.block)))
      clear hR hf
      go_simp
      exact RegT.OpOK_enter Hc.out (fun e w' ⟨he, ⟨v', ht⟩, hB⟩ => ⟨_, he, ⟨_, v', rfl, hsz, ht.mono fun b _ hb => Nat.le_trans hsz hb⟩, hB⟩)
    intro vA
    simp only [List.set_cons_succ, List.set_cons_zero, Nat.reduceAdd]
    refine RegT.T_tail (fun W hR hf => ?_)
    have hy : NewTk w.heap.size B T es vA W := hf _ (.head _) (.inl rfl)
    obtain ⟨N, v', rfl, hN, ht⟩ := hy
    have Hy := Lib.hid ht
    have HTo := Lib.hid (show Below w.heap.size w W from (Below.refl w.heap.size w).drew.trans hR)
    clear hR hf ht
    simp only [List.drop_succ_cons, List.drop_zero]
    go_wp2
    go_ret
    exact ⟨_, _, rfl, hN, Hy.out, HTo.out⟩
  · rfl
  · kernel_rfl
end Go.Proofs.Yteellfgiejnigaa
/- Walks of the document's Slice and Meet. -/
namespace Go.Proofs.Yteellfgiejnigaa
open Go.ChangeShapes Go.WideShapes Go.ChangeAt Go.RowKit
set_option linter.unusedVariables false

section
variable {ops : Array Oper} {rest : List Oper} {o : Oper} {a : Act} {w : World} {Q : Exit → Act → World → Prop}
theorem wpList_append_esg2 (hgd : o.guard = none) (s x : Operand) (ho : o.op = .call { callee := .builtin .append, args := #[s, x], argTypes := #[28, 28] }) {S S' : Foot}
    {v : Value} {es : List Ent} (hs : a.eval s = v) (hown : EsG w S 53 v es) {p : Option Addr} {c : Nat} {ys : List Value} {fs : List Ent} (hx : a.eval x = .slice p fs.length c) (hys : EsC w (fun b => S' b ∧ v.ownBlock ≠ some b) ys fs)
    (hsrc : (p = none ∧ fs = [] ∧ c = 0) ∨ ∃ a, p = some a ∧ ∀ j u, ys[j]? = some u → w.cell? (a.add j) = some u)
    (hlen : es.length + fs.length ≤ 1000000) (hS : ∀ b, S b → S' b) (hnew : S' w.heap.size)
    (h : ∀ p n c w', EsG w' S' 53 (.slice p n c) (es ++ fs) → w.grownBy w' v.ownBlock → ((Value.slice p n c).ownBlock = v.ownBlock ∨ (Value.slice p n c).ownBlock = some w.heap.size) → n = es.length + fs.length → wpList Try.prog ops Q rest (a.put o.dst (.slice p n c)) w') : wpList Try.prog ops Q (o :: rest) a w := by
  refine wpList_plain hgd fun _ hK => ?_
  obtain ⟨v', w', hr, h2, h3, h4, _⟩ := run_append_esg (P := Try.prog) (ty := o.type) helE hown hys hsrc (by unfold maxLen; omega) (by omega) hS hnew
  obtain ⟨p2, c2, rfl⟩ := h2.form
  unfold Oper.wp execOp
  simp only [ho, resolve, invoke, builtin, Sem.run_bind, Sem.run_pure, Result.andThen_ok, List.map_toArray, List.map_cons, List.map_nil, hs, hx, hr]
  exact hK _ _ (h p2 _ c2 w' h2 h3 h4 List.length_append)
end

set_option maxRecDepth 100000 in
set_option maxHeartbeats 3200000 in
theorem rslice_w (S : Foot) (g B T fr : Nat) (most : Int) (v : Value) (es : List Ent) (w : World) (h : RkAt w S g B T v es) (hn : es.length ≤ 1000000) (hf : fr < 2 ^ 64) (hm : -9223372036854775808 ≤ most ∧ most ≤ 9223372036854775807) :
    Calls Try.prog 37 #[.pointer (some ⟨g, 0, none⟩), .int .u64 (fr : Int), .int .i64 most] w fun r w' => ∃ u, r = .returned u ∧ EsR w' (fun b => S b ∨ w.heap.size ≤ b) u (sliceR B es fr most) ∧ Below w.heap.size w w' := by
  have H := Lib.hid (h.mono (S' := fun b => S b ∧ b < w.heap.size) fun b hb hs => ⟨hs, hb⟩)
  have Hlast := Lib.hid (rlast_w S g B T v es w h)
  have c0 := h.c0
  have hfi := h.fits
  unfold sliceR
  by_cases h1 : fr ≤ B
  · rw [if_pos (.inl h1)]
    have e1 : decide (fr ≤ B) = true := by simp [h1]
    clear h Hlast
    go_enter Try.func37, Try.ntmps37
    go_wp2
    go_ret
    exact ⟨_, rfl, EsR.nil _ _, Below.refl _ _⟩
  · have e1 : decide (fr ≤ B) = false := by simp; omega
    by_cases h2 : B + es.length < fr
    · rw [if_pos (.inr (.inl h2))]
      have e2 : decide (B + es.length < fr) = true := by simp [h2]
      generalize B + es.length = L at *
      clear h
      go_enter Try.func37, Try.ntmps37
      go_wp2_with (go_at_call 80; refine (Hlast.out).mono ?_; rintro r w1 ⟨rfl, hB⟩; have HB := Lib.hid hB; clear hB)
      go_ret
      exact ⟨_, rfl, EsR.nil _ _, HB.out⟩
    · have e2 : decide (B + es.length < fr) = false := by simp; omega
      obtain ⟨k0, hk0⟩ : ∃ k0, k0 = fr - B - 1 := ⟨_, rfl⟩
      have Hres := Lib.hid (show (if fr ≤ B ∨ B + es.length < fr ∨ most < 1 then [] else (es.drop (fr - B - 1)).take most.toNat) = (es.drop k0).take most.toNat by
        by_cases h3 : most < 1
        · rw [if_pos (.inr (.inr h3)), show most.toNat = 0 by omega]; rfl
        · rw [if_neg (by omega), hk0])
      rw [Hres.out]
      have hkn : k0 < es.length := by omega
      obtain ⟨b, off, n, c, d, hv, hnn, z1, z2, z3⟩ := h.own.rd.elem k0 hkn
      clear z1 z2 z3
      subst hv hnn
      have e5 : IntKind.u64.wrap ((fr : Int) - (B : Int)) = (k0 : Int) + 1 := by rw [IntWalk.u64_in _ (by omega)]; omega
      have e6 : IntKind.u64.wrap ((k0 : Int) + 1 - 1) = (k0 : Int) := by rw [IntWalk.u64_in _ (by omega)]; omega
      have e7 : (k0 : Int) + 1 - 1 = (k0 : Int) := by omega
      have e8 : IntKind.u64.wrap (k0 : Int) = (k0 : Int) := IntWalk.u64_in _ (by omega)
      have e9 : IntKind.u64.wrap (es.length : Int) = (es.length : Int) := IntWalk.u64_in _ (by omega)
      have hk06 : k0 ≤ 1000000 := by omega
      generalize B + es.length = L at *
      have Hkn := Lib.hid hkn
      clear h h1 h2 hk0 hfi Hres hkn
      go_enter Try.func37, Try.ntmps37
      go_wp2_with (go_at_call 80; refine (Hlast.out).mono ?_; rintro r w1 ⟨rfl, hB⟩; have HB := Lib.hid hB; have H1 := Lib.hid (H.out.keeps hB.block); have c0 := H1.out.c0; clear hB)
      clear Hlast
      go_loopw [7, 8] (fun v i wr => ∃ (k x : Nat) (p : Option Addr) (c : Nat), Hid (x = k0 + k) ∧ x ≤ es.length ∧ k ≤ most.toNat ∧ i = .int .u64 (x : Int) ∧ v = .slice p k c ∧ Hid (EsG wr (fun b => S b ∨ w.heap.size ≤ b) 53 (.slice p k c) ((es.drop k0).take k) ∧ ∀ g, (Value.slice p k c).ownBlock = some g → w.heap.size ≤ g) ∧ Hid (Below w.heap.size w wr)) (fun _ i _ => es.length - (intOf i).toNat)
      case atStart => exact ⟨0, k0, none, 0, Lib.hid rfl, Nat.le_of_lt Hkn.out, Nat.zero_le _, rfl, rfl, Lib.hid ⟨.inl ⟨rfl, by simp⟩, fun g e => by cases e⟩, HB⟩
      case round =>
        obtain ⟨k, x, p, c3, hx, hxl, hkm, rfl, rfl, HE, HBr⟩ := hrel
        have HT := Lib.hid (H.out.frame (fun b hb => HBr.out.block b hb.2))
        have c2 := HT.out.c2
        clear c0
        by_cases hlx : x < es.length
        · by_cases hlm : (k : Int) < most
          · obtain ⟨b2, off2, n2, c2, d, hsv, hnn, hrange, hda, htl⟩ := HT.out.own.rd.elem x hlx
            cases hsv
            have Hra := Lib.hid hrange
            have Htl := Lib.hid htl
            have Hes := Lib.hid (show (es.drop k0).take (k + 1) = (es.drop k0).take k ++ [(es[x].1, es[x].2)] by
              have hx := hx.out
              subst hx
              rw [List.take_succ_eq_append_getElem (by rw [List.length_drop]; omega)]; simp)
            have hlen : ((es.drop k0).take k).length ≤ 1000000 - 1 := by have := hx.out; rw [List.length_take, List.length_drop]; omega
            have Hlen := Lib.hid hlen
            have Hlen2 := Lib.hid (show ((es.drop k0).take k).length = k by have := hx.out; rw [List.length_take, List.length_drop]; omega)
            clear hlen
            generalize es[x].1 = t at *
            generalize es[x].2 = le at *
            obtain ⟨pd, cd, rfl⟩ : ∃ p c, d = .slice p le.length c := by obtain ⟨p, c, h1, _⟩ := hda.rd; exact ⟨p, c, h1⟩
            have HD5 := Lib.hid (hda.keeps ((Keeps.refl wr).alloc (.cells #[.int .u64 (t : Int), .slice pd le.length cd] 53)))
            have HN5 := Lib.hid (EntAt.new wr t (.slice pd le.length cd))
            have HE5 := Lib.hid (HE.out.1.keeps ((Keeps.refl wr).alloc (.cells #[.int .u64 (t : Int), .slice pd le.length cd] 53)))
            have HB5 := Lib.hid (HBr.out.alloc HBr.out.size (.cells #[.int .u64 (t : Int), .slice pd le.length cd] 53))
            have g1 : IntKind.u64.wrap ((x : Int) + 1) = ((x + 1 : Nat) : Int) := by rw [IntWalk.u64_in _ (by omega)]; omega
            have d1 : decide ((k : Int) < most) = true := by simp [hlm]
            have Hown := Lib.hid HE.out.2
            clear hrange hda htl hnn
            have q1 : DatA (wr.alloc (.cells #[.int .u64 (t : Int), .slice pd le.length cd] 53)) (fun b => (S b ∨ w.heap.size ≤ b) ∧ (Value.slice p k c3).ownBlock ≠ some b) (.slice pd le.length cd) le := HD5.out.mono fun b _ hb => (⟨.inl hb.1.1, fun e => by have := Hown.out b e; have := hb.1.2; omega⟩ : (S b ∨ w.heap.size ≤ b) ∧ (Value.slice p k c3).ownBlock ≠ some b)
            have HQ1 := Lib.hid q1
            clear q1
            go_wp2_with (first
              | (refine wpList_load_mid rfl 53 (.tmp 50) rfl _ _ rfl [.int .u64 (t : Int), .slice pd le.length cd] _ Hra.out Try.underlying53 rfl (show _ = some 2 by kernel_rfl) ?_)
              | (at_builtin; go_loud (refine wpList_append_esg2 rfl (.tmp 44) (.tmp 52) rfl (S' := fun b => S b ∨ w.heap.size ≤ b) rfl HE5.out rfl (fs := [(t, le)]) (EsC.cons Htl.out HQ1.out .nil) (.inr ⟨_, rfl, ent_cells HN5.out⟩) (by have h9 := Hlen.out; show _ + 1 ≤ 1000000; omega) (fun b hb => hb) (.inr (by have := HB5.out.size; exact this)) ?_; intro p6 n6 c6 w6 ho hg hown hn6; have hn7 : n6 = k + 1 := (hn6.trans (by rw [Hlen2.out]; rfl)); subst hn7; have HE6 := Lib.hid ho; have HO6 := Lib.hid (fun g (e : (Value.slice p6 (k + 1) c6).ownBlock = some g) => (hown.elim (fun h => Hown.out g (h.symm.trans e)) (fun h => by have := HB5.out.size; have h2 := h.symm.trans e; cases h2; exact this) : w.heap.size ≤ g)); have HB6 := Lib.hid (HB5.out.grown hg HB5.out.size (fun g e => Hown.out g e)); clear ho hown hn6)))
            go_roundw
            case rel => exact ⟨k + 1, x + 1, p6, c6, Lib.hid (by have := hx.out; omega), by omega, by omega, rfl, rfl, Lib.hid ⟨by rw [Hes.out]; exact HE6.out, HO6.out⟩, HB6⟩
            case measure => simp [intOf]; omega
          · have d1 : decide ((k : Int) < most) = false := by simp; omega
            have hk2 : k = most.toNat := by omega
            go_wp2
            go_ret
            exact ⟨_, rfl, by rw [← hk2]; exact HE.out.1.rd, HBr.out⟩
        · have hx2 : x = es.length := by omega
          subst hx2
          go_wp2
          go_ret
          refine ⟨_, rfl, ?_, HBr.out⟩
          have h1 := HE.out.1.rd
          rw [show (es.drop k0).take k = (es.drop k0).take most.toNat by have := hx.out; rw [List.take_eq_take_iff, List.length_drop]; omega] at h1
          exact h1
end Go.Proofs.Yteellfgiejnigaa
