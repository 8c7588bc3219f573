/- The law of TrackMeets: what is met is there. -/
import Derived.Test.YteellfgiejnigaaT20
namespace Go.Proofs.Yteellfgiejnigaa
open Go.ChangeShapes Go.WideShapes Go.ChangeAt Go.RowKit
set_option linter.unusedVariables false

theorem add_all_w (S R : Foot) (g B T : Nat) (v sv : Value) (es ss fs : List Ent) (w : World) (h : TkAt w S g B T v es) (hr : EsR w R sv ss) (hd : ∀ b, b < w.heap.size → R b → S b → False)
    (hn : es.length + ss.length ≤ 1000000) (hl : ∀ e ∈ ss, e.2.length ≤ 1000000) (hB : B ≤ 9223372036854775808) (hf : es ++ ss = fs) :
    Calls Try.prog 27 #[.pointer (some ⟨g, 0, none⟩), sv] w fun r w' => (∃ x, r = .returned x) ∧ ∃ v', TkAt w' (fun b => S b ∨ w.heap.size ≤ b) g B T v' fs ∧ Touch S w w' := by
  have h1 := add_w S R g B T v sv es ss w h hr hd hn hl
  rw [List.take_of_length_le (by omega), hf] at h1
  exact h1
theorem slice_eq_w (S : Foot) (g B T fr : Nat) (most : Int) (v : Value) (es fs : List Ent) (w : World) (h : TkAt w S g B T v es) (hn : es.length ≤ 1000000) (hl : ∀ e ∈ es, e.2.length ≤ 1000000) (hf : fr < 2 ^ 64) (hm : -9223372036854775808 ≤ most ∧ most ≤ 9223372036854775807) (he : sliceR B es fr most = fs) :
    Calls Try.prog 25 #[.pointer (some ⟨g, 0, none⟩), .int .u64 (fr : Int), .int .i64 most] w fun r w' => ∃ u, r = .returned u ∧ EsG w' (fun b => w.heap.size ≤ b) 53 u fs ∧ Below w.heap.size w w' := by
  rw [← he]; exact slice_w S g B T fr most v es w h hn hl hf hm
theorem tip_eq_w (S : Foot) (g B T n : Nat) (v : Value) (es : List Ent) (w : World) (h : TkAt w S g B T v es) (hn : es.length ≤ 1000000) (he : B + es.length = n) :
    Calls Try.prog 23 #[.pointer (some ⟨g, 0, none⟩)] w fun r w' => r = .returned (.tuple #[.int .u64 (n : Int), .int .u64 ((tipT T es : Nat) : Int)]) ∧ Below w.heap.size w w' := by
  rw [← he]; exact tip_w S g B T v es w h hn

set_option maxRecDepth 100000 in
set_option maxHeartbeats 3200000 in
theorem meets_ok_w (B T prev at' keep : Nat) (v1 v2 : Value) (es ss : List Ent) (w : World) (S1 S2 : Foot) (h1 : EsR w S1 v1 es) (h2 : EsR w S2 v2 ss) (hl1 : es.length ≤ 30) (hl2 : ss.length ≤ 30) (k1 : ∀ e ∈ es, e.2.length ≤ 140737488351232) (k2 : ∀ e ∈ ss, e.2.length ≤ 140737488351232)
    (ht : tameR [es, ss] = true) (hb : B ≤ 9223372036854775808) (hp : prev ≤ 9223372036854775808) (hT : T < 2 ^ 64) (hat : at' < 2 ^ 64) (add : List Ent) (hm : meetR B T es prev at' ss = (keep, add, 0)) (law : MeetLaw B T es prev keep ss add) :
    Calls Try.prog 5 #[.int .u64 (B : Int), .int .u64 (T : Int), v1, v2, .int .u64 (prev : Int), .int .u64 (at' : Int)] w fun r w' => r = .returned (.bool true) ∧ Below w.heap.size w w' := by
  obtain ⟨p1, c1, rfl⟩ := h1.len_form
  obtain ⟨p2, c2, rfl⟩ := h2.len_form
  have d1 : decide (30 < (es.length : Int)) = false := by simp; omega
  have d2 : decide (30 < (ss.length : Int)) = false := by simp; omega
  have d3 : decide (9223372036854775808 < (B : Int)) = false := by simp; omega
  have d4 : decide (9223372036854775808 < (prev : Int)) = false := by simp; omega
  have HTm := Lib.hid (tame2_w _ _ es ss w S1 S2 h1 h2 k1 k2)
  have HB1 := Lib.hid (tame2_b w (.slice p1 es.length c1) (.slice p2 ss.length c2))
  rw [ht] at HTm
  have ht5 : osum [es, ss] < 50000 := by unfold tameR at ht; simp only [decide_eq_true_eq] at ht; exact ht.2.2
  have q1 : ∀ e ∈ es, e.2.length ≤ 1000000 := fun e he => by have := le_dsum es e he; simp only [osum] at ht5; omega
  have q2 : ∀ e ∈ ss, e.2.length ≤ 1000000 := fun e he => by have := le_dsum ss e he; simp only [osum] at ht5; omega
  have Hq1 := Lib.hid q1
  have Hq2 := Lib.hid q2
  have H1 := Lib.hid (h1.mono (S' := fun b => b < w.heap.size) fun b hb _ => hb)
  have H2 := Lib.hid (h2.mono (S' := fun b => b < w.heap.size) fun b hb _ => hb)
  have Htk := Lib.hid (show es.take (18446744073709551615 - B) = es from List.take_of_length_le (by omega))
  have HM := Lib.hid hm
  clear h1 h2 k1 k2 ht ht5 q1 q2 hm
  obtain ⟨lo, hi, lat, ltip, lsl, lsub, llen⟩ := law
  have hnl := nowL_len (add := add) hi lo
  have HnowE := Lib.hid (show es.take (keep - B) ++ add = nowL B keep es add from rfl)
  generalize hnow : nowL B keep es add = now at *
  have HA1 := Lib.hid (fun e he => Hq2.out e (lsub e he))
  have hnow30 : now.length ≤ 60 := by rw [← hnow]; unfold nowL; rw [List.length_append, List.length_take]; omega
  have HN1 := Lib.hid (show ∀ e ∈ now, e.2.length ≤ 1000000 from fun e he => by
    rw [← HnowE.out] at he
    rcases List.mem_append.1 he with he | he
    · exact Hq1.out e (List.mem_of_mem_take he)
    · exact HA1.out e he)
  have hmay : mayI B es.length keep = true := by unfold mayI; simp [lo, hi]
  have Hmay := Lib.hid hmay
  obtain ⟨B1, hB1⟩ : ∃ B1, B1 = B + 1 := ⟨_, rfl⟩
  have HB1e := Lib.hid hB1
  have hB1l : B1 < 2 ^ 64 := by omega
  have e1 : IntKind.u64.wrap ((B : Int) + 1) = (B1 : Int) := by rw [IntWalk.u64_in _ (by omega)]; omega
  have Hall := Lib.hid (slice_all (es := es) hB1 (by omega))
  rw [← hB1] at lsl
  obtain ⟨m, hmk⟩ : ∃ m, m = keep - B := ⟨_, rfl⟩
  rw [← hmk] at lsl HnowE
  have hmn : m ≤ es.length := by omega
  have e2 : IntKind.u64.wrap ((keep : Int) - (B : Int)) = (m : Int) := by rw [IntWalk.u64_in _ (by omega)]; omega
  have e3 : IntKind.u64.wrap (es.length : Int) = (es.length : Int) := IntWalk.u64_in _ (by omega)
  have e4 : IntKind.i64.wrap (m : Int) = (m : Int) := IntWalk.i64_in _ (by omega)
  have e5 : IntKind.u64.wrap (ss.length : Int) = (ss.length : Int) := IntWalk.u64_in _ (by omega)
  obtain ⟨L, hL⟩ : ∃ L, L = B + es.length := ⟨_, rfl⟩
  obtain ⟨nw, hnw⟩ : ∃ nw, nw = B + now.length := ⟨_, rfl⟩
  have HL := Lib.hid hL
  have Hnw := Lib.hid hnw
  rw [← hL] at hi ltip
  rw [← hnw] at hnl
  have Hsl := Lib.hid lsl
  have Hat := Lib.hid lat
  have Htip := Lib.hid (show (add.length = 0 ∧ keep = L ∧ nw = L) ∨ (0 < add.length ∧ nw = prev + ss.length) by
    rcases ltip with ⟨h, h2⟩ | ⟨h, h2⟩
    · rw [h] at hnl ⊢; exact .inl ⟨rfl, h2, by simp at hnl; omega⟩
    · exact .inr ⟨h, by omega⟩)
  have f1 : ¬ keep < B := by omega
  have f2 : ¬ L < keep := by omega
  have f3 : ¬ es.length < m := by omega
  have Hm6 := Lib.hid (show keep - B = m from hmk.symm)
  have hsl := fun p c (hc : m ≤ c) x => run_slice_hi_u 28 53 Try.underlying28 2 (by kernel_rfl) p es.length c m hc x
  have Hslice := Lib.hid hsl
  have hm30 : m ≤ 30 := by omega
  clear lat ltip lsl lsub hnl hnow hmay hB1 hmk hL hnw hsl
  go_enter Try.func5, Try.ntmps5
  go_wp2_with (first
    | (go_at_call 21; refine (HTm.out).mono ?_; rintro r w2 ⟨rfl, hB⟩; have HB2 := Lib.hid (HB1.out.trans (hB.mono HB1.out.size)); clear hB HTm HB1)
    | (go_at_call 22; refine (new_w (fun b => b < w.heap.size) B T _ es w2 (by omega) (by omega) (H1.out.keeps HB2.out.block) (by omega) Hq1.out).mono ?_; rintro r w3 ⟨rfl, ⟨v3, ht3⟩, hB⟩; rw [Htk.out] at ht3; have hs2 := HB2.out.size; have hs3 : w2.heap.size < w3.heap.size := ht3.lt; have HT3 := Lib.hid (ht3.mono (S' := fun b => w.heap.size ≤ b ∧ b < w3.heap.size) fun b hlt hb => ⟨Nat.le_trans hs2 hb, hlt⟩); have HB3 := Lib.hid (HB2.out.trans (hB.mono HB2.out.size)); clear hB ht3)
    | (go_at_call 23; refine (tip_eq_w _ _ B T L _ es _ HT3.out (by omega) HL.out.symm).mono ?_; rintro r w4 ⟨rfl, hB⟩; have hs4 := hB.size; have HT4 := Lib.hid (HT3.out.keeps hB.block); have HB4 := Lib.hid (HB3.out.trans (hB.mono HB3.out.size)); clear hB HT3)
    | (go_at_call 24; refine (meet_w _ (fun b => b < w.heap.size) _ B T prev at' _ _ es ss _ HT4.out (H2.out.keeps HB4.out.block) (by omega) (by omega) (by omega) Hq2.out).mono ?_; rintro r w5 ⟨av, rfl, ha, hB⟩; rw [HM.out] at ha ⊢; obtain ⟨p3, c3, rfl⟩ := ha.len_form; have hs5 := hB.size; have HA5 := Lib.hid (ha.mono (S' := fun b => w3.heap.size ≤ b) fun b _ hb => Nat.le_trans hs4 hb); have HT5 := Lib.hid (HT4.out.keeps hB.block); have HB5 := Lib.hid (HB4.out.trans (hB.mono HB4.out.size)); clear hB ha HT4)
    | (go_at_call 25; refine (slice_eq_w _ _ B T B1 100 _ es es _ HT5.out (by omega) Hq1.out (by omega) (by omega) Hall.out).mono ?_; rintro r w6 ⟨u, rfl, hu, hB⟩; obtain ⟨p4, c4, rfl⟩ := hu.form; have hs6 := hB.size; have HU6 := Lib.hid (hu.mono (S' := fun b => w3.heap.size ≤ b) fun b _ hb => Nat.le_trans hs4 (Nat.le_trans hs5 hb)); have HA6 := Lib.hid (HA5.out.keeps hB.block); have HT6 := Lib.hid (HT5.out.keeps hB.block); have HB6 := Lib.hid (HB5.out.trans (hB.mono HB5.out.size)); clear hB hu HT5 HA5)
    | (go_at_call 26; refine (cut_ok_w _ _ B T keep _ es _ HT6.out Hmay.out).mono ?_; rintro r w7 ⟨rfl, ⟨v7, ht7⟩, hto⟩; rw [Hm6.out] at ht7; have hs7 := hto.size; have HT7 := Lib.hid ht7; have HU7 := Lib.hid (HU6.out.touch hto (fun b _ h e => by have h2 : w3.heap.size ≤ b := h; have := e.2; omega)); have HA7 := Lib.hid (HA6.out.touch hto (fun b _ h e => by have h2 : w3.heap.size ≤ b := h; have := e.2; omega)); have HB7 := Lib.hid (HB6.out.trans (hto.below HB6.out.size (fun b e => e.1))); clear ht7 hto HT6 HU6 HA6)
    | (go_at_call 27; refine (add_all_w _ _ _ B T _ _ (es.take m) add now _ HT7.out HA7.out (fun b _ h e => by have h2 : w3.heap.size ≤ b := h; have := e.2; omega) (by rw [List.length_take]; omega) HA1.out (by omega) HnowE.out).mono ?_; rintro r w8 ⟨⟨x8, rfl⟩, v8, ht8, hto⟩; have hs8 := hto.size; have HT8 := Lib.hid ht8; have HU8 := Lib.hid (HU7.out.touch hto (fun b _ h e => by have h2 : w3.heap.size ≤ b := h; have := e.2; omega)); have HB8 := Lib.hid (HB7.out.trans (hto.below HB7.out.size (fun b e => e.1))); clear ht8 hto HT7 HU7 HA7)
    | (go_at_call 23; refine (tip_eq_w _ _ B T nw _ now _ HT8.out (by omega) Hnw.out.symm).mono ?_; rintro r w9 ⟨rfl, hB⟩; have hs9 := hB.size; have HT9 := Lib.hid (HT8.out.keeps hB.block); have HU9 := Lib.hid (HU8.out.keeps hB.block); have HB9 := Lib.hid (HB8.out.trans (hB.mono HB8.out.size)); clear hB HT8 HU8))
  have hsz := HB9.out.size
  go_loopw [22] (fun i wr => ∃ k : Nat, k ≤ ss.length ∧ i = .int .i64 (k : Int) ∧ Hid (TkAt wr (fun b => (w.heap.size ≤ b ∧ b < w3.heap.size) ∨ w7.heap.size ≤ b) w2.heap.size B T v8 now) ∧ Hid (EsG wr (fun b => w3.heap.size ≤ b) 53 (.slice p4 es.length c4) es) ∧ Hid (Below w.heap.size w wr)) (fun i _ => ss.length - (intOf i).toNat)
  case atStart => exact ⟨0, Nat.zero_le _, rfl, HT9, HU9, HB9⟩
  case round =>
    obtain ⟨k, hk, rfl, HT, HU, HB⟩ := hrel
    clear HT9 HU9 HB9
    by_cases hlt : k < ss.length
    · obtain ⟨b, off, c, hv, hcell0⟩ := H2.out.term k hlt
      cases hv
      have hcell := HB.out.cell (p := ⟨b, off + k * 2, none⟩) (block_lt_of_cell hcell0)
      rw [hcell0] at hcell
      have hgk : (ss.getD k (0, [])).1 = ss[k].1 := by rw [getD_of_lt _ _ _ hlt]
      have Hat2 := Lib.hid (Hat.out k hlt)
      rw [hgk] at Hat2
      generalize ss[k].1 = t at *
      obtain ⟨y, hy⟩ : ∃ y, y = prev + k := ⟨_, rfl⟩
      obtain ⟨x, hx⟩ : ∃ x, x = y + 1 := ⟨_, rfl⟩
      have g1 : IntKind.u64.wrap (k : Int) = (k : Int) := IntWalk.u64_in _ (by omega)
      have g2 : IntKind.u64.wrap ((prev : Int) + (k : Int)) = (y : Int) := by rw [IntWalk.u64_in _ (by omega)]; omega
      have g3 : IntKind.u64.wrap ((y : Int) + 1) = (x : Int) := by rw [IntWalk.u64_in _ (by omega)]; omega
      rw [show prev + k + 1 = x by omega] at Hat2
      have hxl : x < 2 ^ 64 := by omega
      have hk30 : k ≤ 30 := by omega
      clear hcell0 hgk hx hy
      by_cases hxB : x ≤ B
      · have g4 : decide ((x : Int) ≤ (B : Int)) = true := by simp; omega
        clear Hat2
        go_wp2
        go_roundw
        case rel => exact ⟨k + 1, by omega, by go_num, HT, HU, HB⟩
        case measure => simp [intOf]; omega
      · have g4 : decide ((x : Int) ≤ (B : Int)) = false := by simp; omega
        have HTm := Lib.hid (termat_w _ _ B T _ now x _ HT.out (by omega) hxl)
        rw [Hat2.out (by omega)] at HTm
        go_wp2_with (go_at_call 28; refine (HTm.out).mono ?_; rintro r w10 ⟨rfl, hB⟩; have hcell := (hB.cell (p := ⟨b, off + k * 2, none⟩) (block_lt_of_cell hcell)).trans hcell; have HT10 := Lib.hid (HT.out.keeps hB.block); have HU10 := Lib.hid (HU.out.keeps hB.block); have HB10 := Lib.hid (HB.out.trans (hB.mono HB.out.size)); clear hB HT HU HB HTm)
        go_roundw
        case rel => exact ⟨k + 1, by omega, by go_num, HT10, HU10, HB10⟩
        case measure => simp [intOf]; omega
    · have hk2 : k = ss.length := by omega
      subst hk2
      have Hcc := Lib.hid (show m ≤ c4 by
        obtain ⟨p', c', xs, e, q, _⟩ := HU.out.rd
        cases e; exact Nat.le_trans hmn q)
      have hsl := Hslice.out p4 c4 Hcc.out
      rcases Htip.out with ⟨ha0, hkL, hnL⟩ | ⟨ha0, hnL⟩
      · generalize add.length = a at *
        subst ha0 hnL
        subst hkL
        go_wp2
        apply RegT.wp_region_T rfl 195 17 rfl (by kernel_rfl) RegT.Grow RegT.Grow.refl RegT.Grow.trans
        · iterate 2
            apply RegT.T_pure rfl rfl rfl
            · intro W hR; go_simp; rfl
            simp only [List.set_cons_succ, List.set_cons_zero, Nat.reduceAdd]
          apply RegT.T_pure (v := .int .u64 (B1 : Int)) rfl rfl rfl
          · intro W hR; clear hR; go_simp
          simp only [List.set_cons_succ, List.set_cons_zero, Nat.reduceAdd]
          iterate 2
            apply RegT.T_pure rfl rfl rfl
            · intro W hR; go_simp; rfl
            simp only [List.set_cons_succ, List.set_cons_zero, Nat.reduceAdd]
          apply RegT.T_pure (v := .int .u64 (m : Int)) rfl rfl rfl
          · intro W hR; clear hR; go_simp
          simp only [List.set_cons_succ, List.set_cons_zero, Nat.reduceAdd]
          apply RegT.T_pure (v := .int .i64 (m : Int)) rfl rfl rfl
          · intro W hR; clear hR; go_simp
          simp only [List.set_cons_succ, List.set_cons_zero, Nat.reduceAdd]
          apply RegT.T_predC rfl rfl rfl 13 (fun y W => EsG W (fun b => w.heap.size ≤ b) 53 y (es.take m)) (fun _ _ h => h) (fun y x z hR h => h.keeps hR.block)
          · intro W hR hf
            have hsz : w.heap.size ≤ W.heap.size := Nat.le_trans HB.out.size hR.size
            have Hc := Lib.hid (slice_eq_w _ _ B T B1 (m : Int) _ now (es.take m) W (HT.out.keeps ((Keeps.refl wr).drew.trans hR.block)) (by omega) HN1.out hB1l (by omega) Hsl.out)
            clear hR hf
            go_simp
            exact RegT.OpOK_enter Hc.out (fun e w' ⟨u, he, hu, hB⟩ => ⟨_, he, hu.mono fun b _ hb => Nat.le_trans hsz hb, hB⟩)
          intro v7
          simp only [List.set_cons_succ, List.set_cons_zero, Nat.reduceAdd]
          iterate 3
            apply RegT.T_pure rfl rfl rfl
            · intro W hR; go_simp; rfl
            simp only [List.set_cons_succ, List.set_cons_zero, Nat.reduceAdd]
          apply RegT.T_pure (v := .int .u64 (m : Int)) rfl rfl rfl
          · intro W hR; clear hR; go_simp
          simp only [List.set_cons_succ, List.set_cons_zero, Nat.reduceAdd]
          apply RegT.T_pure (v := .slice p4 m c4) rfl rfl rfl
          · intro W hR; clear hR; go_simp
          simp only [List.set_cons_succ, List.set_cons_zero, Nat.reduceAdd]
          apply RegT.T_const rfl rfl rfl (.bool true) (fun _ _ h => h)
          · intro W hR hf
            have hy : EsG W (fun b => w.heap.size ≤ b) 53 v7 (es.take m) := hf _ (.head _) (by kernel_rfl) (.inr rfl)
            have Hc := Lib.hid (same_w _ _ _ _ (es.take m) (es.take m) W hy.rd ((HU.out.keeps ((Keeps.refl wr).drew.trans hR.block)).rd.hi hmn) (by rw [List.length_take]; omega))
            rw [decide_eq_true rfl] at Hc
            clear hR hf hy
            go_simp
            exact RegT.OpOK_enter Hc.out (fun e w' h => ⟨_, h.1, rfl, h.2⟩)
          simp only [List.set_cons_succ, List.set_cons_zero, Nat.reduceAdd]
          iterate 1
            apply RegT.T_pure rfl rfl rfl
            · intro W hR; go_simp; rfl
            simp only [List.set_cons_succ, List.set_cons_zero, Nat.reduceAdd]
          apply RegT.T_const rfl rfl rfl (.bool true) (fun _ _ h => h)
          · intro W hR hf
            have Hc := Lib.hid (known24_w W)
            clear hR hf
            go_simp
            exact RegT.OpOK_enter Hc.out (fun e w' h => ⟨_, h.1, rfl, h.2⟩)
          simp only [List.set_cons_succ, List.set_cons_zero, Nat.reduceAdd]
          apply RegT.T_pure (v := .bool true) rfl rfl rfl
          · intro W hR; clear hR; go_simp
          simp only [List.set_cons_succ, List.set_cons_zero, Nat.reduceAdd]
          refine RegT.T_tail (fun W hR hf => ?_)
          have HB2 := Lib.hid (HB.out.trans (((Below.refl _ wr).drew.trans hR).mono HB.out.size))
          clear hR hf
          simp only [List.drop_succ_cons, List.drop_zero]
          go_wp2
          go_ret
          exact ⟨rfl, HB2.out⟩
        · rfl
        · kernel_rfl
      · generalize add.length = a at *
        have g5 : IntKind.u64.wrap ((prev : Int) + (ss.length : Int)) = (nw : Int) := by rw [IntWalk.u64_in _ (by omega)]; omega
        clear hnL
        go_wp2
        apply RegT.wp_region_T rfl 195 17 rfl (by kernel_rfl) RegT.Grow RegT.Grow.refl RegT.Grow.trans
        · iterate 2
            apply RegT.T_pure rfl rfl rfl
            · intro W hR; go_simp; rfl
            simp only [List.set_cons_succ, List.set_cons_zero, Nat.reduceAdd]
          apply RegT.T_pure (v := .int .u64 (B1 : Int)) rfl rfl rfl
          · intro W hR; clear hR; go_simp
          simp only [List.set_cons_succ, List.set_cons_zero, Nat.reduceAdd]
          iterate 2
            apply RegT.T_pure rfl rfl rfl
            · intro W hR; go_simp; rfl
            simp only [List.set_cons_succ, List.set_cons_zero, Nat.reduceAdd]
          apply RegT.T_pure (v := .int .u64 (m : Int)) rfl rfl rfl
          · intro W hR; clear hR; go_simp
          simp only [List.set_cons_succ, List.set_cons_zero, Nat.reduceAdd]
          apply RegT.T_pure (v := .int .i64 (m : Int)) rfl rfl rfl
          · intro W hR; clear hR; go_simp
          simp only [List.set_cons_succ, List.set_cons_zero, Nat.reduceAdd]
          apply RegT.T_predC rfl rfl rfl 13 (fun y W => EsG W (fun b => w.heap.size ≤ b) 53 y (es.take m)) (fun _ _ h => h) (fun y x z hR h => h.keeps hR.block)
          · intro W hR hf
            have hsz : w.heap.size ≤ W.heap.size := Nat.le_trans HB.out.size hR.size
            have Hc := Lib.hid (slice_eq_w _ _ B T B1 (m : Int) _ now (es.take m) W (HT.out.keeps ((Keeps.refl wr).drew.trans hR.block)) (by omega) HN1.out hB1l (by omega) Hsl.out)
            clear hR hf
            go_simp
            exact RegT.OpOK_enter Hc.out (fun e w' ⟨u, he, hu, hB⟩ => ⟨_, he, hu.mono fun b _ hb => Nat.le_trans hsz hb, hB⟩)
          intro v7
          simp only [List.set_cons_succ, List.set_cons_zero, Nat.reduceAdd]
          iterate 3
            apply RegT.T_pure rfl rfl rfl
            · intro W hR; go_simp; rfl
            simp only [List.set_cons_succ, List.set_cons_zero, Nat.reduceAdd]
          apply RegT.T_pure (v := .int .u64 (m : Int)) rfl rfl rfl
          · intro W hR; clear hR; go_simp
          simp only [List.set_cons_succ, List.set_cons_zero, Nat.reduceAdd]
          apply RegT.T_pure (v := .slice p4 m c4) rfl rfl rfl
          · intro W hR; clear hR; go_simp
          simp only [List.set_cons_succ, List.set_cons_zero, Nat.reduceAdd]
          apply RegT.T_const rfl rfl rfl (.bool true) (fun _ _ h => h)
          · intro W hR hf
            have hy : EsG W (fun b => w.heap.size ≤ b) 53 v7 (es.take m) := hf _ (.head _) (by kernel_rfl) (.inr rfl)
            have Hc := Lib.hid (same_w _ _ _ _ (es.take m) (es.take m) W hy.rd ((HU.out.keeps ((Keeps.refl wr).drew.trans hR.block)).rd.hi hmn) (by rw [List.length_take]; omega))
            rw [decide_eq_true rfl] at Hc
            clear hR hf hy
            go_simp
            exact RegT.OpOK_enter Hc.out (fun e w' h => ⟨_, h.1, rfl, h.2⟩)
          simp only [List.set_cons_succ, List.set_cons_zero, Nat.reduceAdd]
          iterate 1
            apply RegT.T_pure rfl rfl rfl
            · intro W hR; go_simp; rfl
            simp only [List.set_cons_succ, List.set_cons_zero, Nat.reduceAdd]
          apply RegT.T_const rfl rfl rfl (.bool true) (fun _ _ h => h)
          · intro W hR hf
            have Hc := Lib.hid (known24_w W)
            clear hR hf
            go_simp
            exact RegT.OpOK_enter Hc.out (fun e w' h => ⟨_, h.1, rfl, h.2⟩)
          simp only [List.set_cons_succ, List.set_cons_zero, Nat.reduceAdd]
          apply RegT.T_pure (v := .bool true) rfl rfl rfl
          · intro W hR; clear hR; go_simp
          simp only [List.set_cons_succ, List.set_cons_zero, Nat.reduceAdd]
          refine RegT.T_tail (fun W hR hf => ?_)
          have HB2 := Lib.hid (HB.out.trans (((Below.refl _ wr).drew.trans hR).mono HB.out.size))
          clear hR hf
          simp only [List.drop_succ_cons, List.drop_zero]
          go_wp2
          go_ret
          exact ⟨rfl, HB2.out⟩
        · rfl
        · kernel_rfl
end Go.Proofs.Yteellfgiejnigaa
