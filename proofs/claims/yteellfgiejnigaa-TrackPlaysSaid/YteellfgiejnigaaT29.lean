/- The walk of the document's Meet. -/
import Derived.Test.YteellfgiejnigaaT28
import Derived.Test.YteellfgiejnigaaT7
namespace Go.Proofs.Yteellfgiejnigaa
open Go.ChangeShapes Go.WideShapes Go.ChangeAt Go.RowKit
set_option linter.unusedVariables false

theorem Keeps.drewN {w w' : World} (h : Keeps w w') (n : Nat) : Keeps w (w'.drewN n) := h
set_option maxRecDepth 100000 in
set_option maxHeartbeats 6400000 in
theorem rmeet_w (S R : Foot) (g B T prev term : Nat) (v sv : Value) (es ss : List Ent) (w : World) (h : RkAt w S g B T v es) (hr : EsR w R sv ss) (hp : prev < 2 ^ 64) (ht : term < 2 ^ 64) (hn : es.length ≤ 1000000) (hs : ss.length ≤ 1000000) :
    Calls Try.prog 36 #[.pointer (some ⟨g, 0, none⟩), .int .u64 (prev : Int), .int .u64 (term : Int), sv] w fun r w' => ∃ av, r = .returned (.tuple #[.int .u64 (((meetR B T es prev term ss).1 : Nat) : Int), av, .int .i64 (meetR B T es prev term ss).2.2]) ∧ EsR w' R av (meetR B T es prev term ss).2.1 ∧ Below w.heap.size w w' := by
  have H := Lib.hid h
  have Hr := Lib.hid hr
  obtain ⟨p0, cc, rfl⟩ := hr.len_form
  have Hlast := Lib.hid (fun W (hW : RkAt W S g B T v es) => rlast_w S g B T v es W hW)
  have Htm := Lib.hid (fun W (hW : RkAt W S g B T v es) i hi => rtermat_w S g B T v es i W hW hn hi)
  have c0 := h.c0
  have hfit := h.fits
  obtain ⟨n, hnn⟩ : ∃ n, n = ss.length := ⟨_, rfl⟩
  rw [← hnn]
  have Hn := Lib.hid hnn
  have Hr := Lib.hid (show EsR w R (.slice p0 n cc) ss by rw [hnn]; exact Hr.out)
  have hn6 : n ≤ 1000000 := by omega
  have e1 : IntKind.u64.wrap (n : Int) = (n : Int) := IntWalk.u64_in _ (by omega)
  by_cases h1 : prev < B ∧ ss.length < B - prev
  · have hm : meetR B T es prev term ss = (0, [], 240) := by unfold meetR; rw [if_pos h1]
    rw [hm]
    obtain ⟨q, hq⟩ : ∃ q, q = B - prev := ⟨_, rfl⟩
    have e2 : IntKind.u64.wrap ((B : Int) - (prev : Int)) = (q : Int) := by rw [IntWalk.u64_in _ (by omega)]; omega
    have d1 : decide (prev < B) = true := by simp; omega
    have d2 : decide (n < q) = true := by simp; omega
    clear h hr hnn hq h1 hfit
    go_enter Try.func36, Try.ntmps36
    go_wp2
    go_ret3
    exact ⟨_, rfl, EsR.nil _ _, Below.refl _ _⟩
  · by_cases h2 : B + es.length < prev ∨ ((termAt B T es prev).2 = true ∧ (termAt B T es prev).1 ≠ term)
    · have hm : meetR B T es prev term ss = (0, [], 241) := by unfold meetR; rw [if_neg h1, if_pos h2]
      rw [hm]
      have hpB : ¬ prev < B := by
        intro hlt
        rcases h2 with h2 | ⟨h2, _⟩
        · omega
        · unfold termAt at h2; rw [if_pos (.inl hlt)] at h2; cases h2
      have d1 : decide (prev < B) = false := by simp; omega
      have HTm := Lib.hid (Htm.out w h prev hp)
      rcases htm : termAt B T es prev with ⟨tt, tb⟩
      rw [htm] at HTm h2
      dsimp only at h2
      obtain ⟨L, hL⟩ : ∃ L, L = B + es.length := ⟨_, rfl⟩
      rw [← hL] at Hlast h2
      by_cases hLp : L < prev
      · have d3 : decide (L < prev) = true := by simp; omega
        clear h hr hnn h1 hfit h2 htm hL hpB
        go_enter Try.func36, Try.ntmps36
        go_wp2_with (first
          | (go_at_call 38; refine (HTm.out).mono ?_; rintro r w2 ⟨rfl, hB⟩; have H2 := Lib.hid (H.out.keeps hB.block); have HB2 := Lib.hid hB; clear hB)
          | (go_at_call 80; refine (Hlast.out _ H2.out).mono ?_; rintro r w3 ⟨rfl, hB⟩; have HB3 := Lib.hid (HB2.out.trans (hB.mono HB2.out.size)); clear hB))
        go_ret3
        exact ⟨_, rfl, EsR.nil _ _, HB3.out⟩
      · have d3 : decide (L < prev) = false := by simp; omega
        have h3 : tb = true ∧ tt ≠ term := by
          rcases h2 with h2 | h2
          · exact absurd h2 hLp
          · exact h2
        obtain ⟨rfl, hne⟩ := h3
        have d4 : (tt == term) = false := by simp; omega
        have d5 : decide (tt = term) = false := by simp; omega
        clear h hr hnn h1 hfit h2 htm hL hpB hLp hne
        go_enter Try.func36, Try.ntmps36
        go_wp2_with (first
          | (go_at_call 38; refine (HTm.out).mono ?_; rintro r w2 ⟨rfl, hB⟩; have H2 := Lib.hid (H.out.keeps hB.block); have HB2 := Lib.hid hB; clear hB)
          | (go_at_call 80; refine (Hlast.out _ H2.out).mono ?_; rintro r w3 ⟨rfl, hB⟩; have HB3 := Lib.hid (HB2.out.trans (hB.mono HB2.out.size)); clear hB))
        go_ret3
        exact ⟨_, rfl, EsR.nil _ _, HB3.out⟩
    · have HgoN := Lib.hid (fun (hf : (List.range (placedN prev ss.length)).find? (misses B T es prev ss) = none) => (show meetR B T es prev term ss = (B + es.length, [], 0) by unfold meetR; rw [if_neg h1, if_neg h2, hf]))
      have HgoS := Lib.hid (fun k (hf : (List.range (placedN prev ss.length)).find? (misses B T es prev ss) = some k) => (show meetR B T es prev term ss = (prev + k, ss.drop k, 0) by unfold meetR; rw [if_neg h1, if_neg h2, hf]))
      have hpl : prev ≤ B + es.length := by apply Classical.byContradiction; intro hnn; exact h2 (.inl (by omega))
      have hway : (prev < B ∧ ¬ ss.length < B - prev ∧ (termAt B T es prev).2 = false) ∨ (¬ prev < B ∧ (termAt B T es prev).2 = true ∧ (termAt B T es prev).1 = term) := by
        by_cases hlt : prev < B
        · exact .inl ⟨hlt, fun e => h1 ⟨hlt, e⟩, by unfold termAt; rw [if_pos (.inl hlt)]⟩
        · have hb : (termAt B T es prev).2 = true := by
            unfold termAt
            rw [if_neg (by omega)]
            split <;> rfl
          exact .inr ⟨hlt, hb, Classical.byContradiction fun hne => h2 (.inr ⟨hb, hne⟩)⟩
      have HTm := Lib.hid (Htm.out w h prev hp)
      rcases htm : termAt B T es prev with ⟨tt, tb⟩
      rw [htm] at HTm hway
      dsimp only at hway
      obtain ⟨L, hL⟩ : ∃ L, L = B + es.length := ⟨_, rfl⟩
      have HL := Lib.hid hL
      rw [← hL] at Hlast hpl
      have d3 : decide (L < prev) = false := by simp; omega
      rcases hway with ⟨hlt, hnl, rfl⟩ | ⟨hlt, rfl, rfl⟩
      · obtain ⟨q, hq⟩ : ∃ q, q = B - prev := ⟨_, rfl⟩
        have e2 : IntKind.u64.wrap ((B : Int) - (prev : Int)) = (q : Int) := by rw [IntWalk.u64_in _ (by omega)]; omega
        have d1 : decide (prev < B) = true := by simp; omega
        have d2 : decide (n < q) = false := by simp; omega
        clear h hr hnn h1 hfit h2 htm hL hlt hnl hq hpl
        go_enter Try.func36, Try.ntmps36
        go_wp2_with (first
          | (go_at_call 38; refine (HTm.out).mono ?_; rintro r w2 ⟨rfl, hB⟩; have H2 := Lib.hid (H.out.keeps hB.block); have HB2 := Lib.hid hB; clear hB)
          | (go_at_call 80; refine (Hlast.out _ H2.out).mono ?_; rintro r w3 ⟨rfl, hB⟩; have HB4 := Lib.hid (HB2.out.trans (hB.mono HB2.out.size)); clear hB))
        clear HTm
        go_loopw [14] (fun i wr => ∃ k : Nat, k ≤ placedN prev n ∧ i = .int .u64 (k : Int) ∧ Hid (∀ j, j < k → misses B T es prev ss j = false) ∧ Hid (Below w.heap.size w wr)) (fun i _ => n - (intOf i).toNat)
        case atStart => exact ⟨0, Nat.zero_le _, rfl, Lib.hid (fun j hj => by omega), HB4⟩
        case round =>
          obtain ⟨k, hk, rfl, HM, HB⟩ := hrel
          have HT := Lib.hid (H.out.keeps HB.out.block)
          have c0 := HT.out.c0
          have hkn : k ≤ n := by unfold placedN at hk; omega
          have hkp : prev + k ≤ 18446744073709551615 := by unfold placedN at hk; omega
          obtain ⟨y, hy⟩ : ∃ y, y = prev + k := ⟨_, rfl⟩
          have Hy := Lib.hid hy
          have g1 : IntKind.u64.wrap ((prev : Int) + (k : Int)) = (y : Int) := by rw [IntWalk.u64_in _ (by omega)]; omega
          have hyl : y ≤ 18446744073709551615 := by omega
          by_cases hlt : k < placedN prev n
          · have hkn1 : k < n := by unfold placedN at hlt; omega
            have hy1 : y < 18446744073709551615 := by unfold placedN at hlt; omega
            have Hlt := Lib.hid hlt
            obtain ⟨x, hx⟩ : ∃ x, x = y + 1 := ⟨_, rfl⟩
            have Hx := Lib.hid (show x = prev + k + 1 by omega)
            have g2 : IntKind.u64.wrap ((y : Int) + 1) = (x : Int) := by rw [IntWalk.u64_in _ (by omega)]; omega
            have g3 : IntKind.u64.wrap ((x : Int) - 1) = (y : Int) := by rw [IntWalk.u64_in _ (by omega)]; omega
            have d1 : ((y : Int) == 18446744073709551615) = false := by simp; omega
            have d2 : decide ((y : Int) = 18446744073709551615) = false := by simp; omega
            have hx64 : x < 2 ^ 64 := by omega
            have hkS : k < ss.length := by rw [← Hn.out]; exact hkn1
            obtain ⟨b, off, c, d, hv, hRb, hbl, hcell0, hc1, hda, htl⟩ := Hr.out.elemF k hkS
            have hp0 : p0 = some ⟨b, off, none⟩ := by injection hv
            subst hp0
            have hcell := HB.out.cell (p := ⟨b, off + k * 2, none⟩) hbl
            rw [hcell0] at hcell
            have hgk : (ss.getD k (0, [])).1 = ss[k].1 := by rw [getD_of_lt _ _ _ hkS]
            have HgK := Lib.hid hgk
            obtain ⟨q, d9, hsl, hlo⟩ := slice_lo_es (Hr.out.keeps HB.out.block) (l := k) (by omega)
            have Hlo := Lib.hid hlo
            have Hmiss := Lib.hid (show misses B T es prev ss k = (decide (B < x) && (!(termAt B T es x).2 || decide ((termAt B T es x).1 ≠ ss[k].1))) by unfold misses; rw [hgk, Hx.out])
            have g4 : IntKind.u64.wrap (k : Int) = (k : Int) := IntWalk.u64_in _ (by omega)
            have g5 : IntKind.u64.wrap ((k : Int) + 1) = ((k + 1 : Nat) : Int) := by rw [IntWalk.u64_in _ (by omega)]; omega
            generalize ss[k].1 = t at *
            clear hv hy hx hcell0 hc1 hda htl hgk hlo hk hkp hlt hRb hbl
            by_cases hxB : x ≤ B
            · have d3 : decide (x ≤ B) = true := by simp; omega
              have hm0 : misses B T es prev ss k = false := by rw [Hmiss.out]; simp; omega
              have Hm0 := Lib.hid hm0
              clear hm0
              go_wp2
              go_roundw
              case rel => exact ⟨k + 1, Hlt.out, rfl, Lib.hid (all_succ HM.out Hm0.out), HB⟩
              case measure => simp [intOf]; omega
            · have d3 : decide (x ≤ B) = false := by simp; omega
              have hBx : decide (B < x) = true := by simp; omega
              have HTm := Lib.hid (Htm.out _ HT.out x hx64)
              rw [hBx, Bool.true_and] at Hmiss
              clear hBx
              rcases htx : termAt B T es x with ⟨tt, tb⟩
              rw [htx] at Hmiss HTm
              clear htx
              cases tb with
              | false =>
                have Hm1 := Lib.hid (show misses B T es prev ss k = true by rw [Hmiss.out]; rfl)
                go_wp2_with (go_at_call 38; refine (HTm.out).mono ?_; rintro r w10 ⟨rfl, hB⟩; have HB10 := Lib.hid (HB.out.trans (hB.mono HB.out.size)); have HL10 := Lib.hid (Hlo.out.keeps hB.block); clear hB)
                go_quiet (fail)
                go_wp2
                go_ret3
                have hff := find_first HM.out Hm1.out (placedN prev n) Hlt.out
                rw [Hn.out] at hff
                exact ⟨_, by rw [HgoS.out _ hff, Hy.out]; rfl, by rw [HgoS.out _ hff]; exact HL10.out.keeps ((Keeps.refl w10).drewN _), HB10.out.trans ⟨rfl, rfl, rfl, Nat.le_refl _, fun _ _ => rfl⟩⟩
              | true =>
                by_cases htt : tt = t
                · subst htt
                  have Hm0 := Lib.hid (show misses B T es prev ss k = false by rw [Hmiss.out]; simp)
                  go_wp2_with (go_at_call 38; refine (HTm.out).mono ?_; rintro r w10 ⟨rfl, hB⟩; have hcell := (hB.cell (p := ⟨b, off + k * 2, none⟩) (block_lt_of_cell hcell)).trans hcell; have HB10 := Lib.hid (HB.out.trans (hB.mono HB.out.size)); clear hB)
                  go_roundw
                  case rel => exact ⟨k + 1, Hlt.out, rfl, Lib.hid (all_succ HM.out Hm0.out), HB10⟩
                  case measure => simp [intOf]; omega
                · have Hm1 := Lib.hid (show misses B T es prev ss k = true by rw [Hmiss.out]; simp [htt])
                  have d4 : (tt == t) = false := by simp; omega
                  have d5 : decide (tt = t) = false := by simp; omega
                  clear htt
                  go_wp2_with (go_at_call 38; refine (HTm.out).mono ?_; rintro r w10 ⟨rfl, hB⟩; have hcell := (hB.cell (p := ⟨b, off + k * 2, none⟩) (block_lt_of_cell hcell)).trans hcell; have HB10 := Lib.hid (HB.out.trans (hB.mono HB.out.size)); have HL10 := Lib.hid (Hlo.out.keeps hB.block); clear hB)
                  go_quiet (fail)
                  go_wp2
                  go_ret3
                  have hff := find_first HM.out Hm1.out (placedN prev n) Hlt.out
                  rw [Hn.out] at hff
                  exact ⟨_, by rw [HgoS.out _ hff, Hy.out]; rfl, by rw [HgoS.out _ hff]; exact HL10.out.keeps ((Keeps.refl w10).drewN _), HB10.out.trans ⟨rfl, rfl, rfl, Nat.le_refl _, fun _ _ => rfl⟩⟩
          · have hkN : k = placedN prev n := by omega
            have Hfin := Lib.hid (show (List.range (placedN prev ss.length)).find? (misses B T es prev ss) = none by rw [← Hn.out]; exact find_none (by rw [← hkN]; exact HM.out))
            have hend : k = n ∨ (k < n ∧ y = 18446744073709551615) := by unfold placedN at hkN; omega
            clear hk hkN hlt hkp hy hyl hkn
            rcases hend with rfl | ⟨hkn, rfl⟩
            · go_wp2_with (go_at_call 80; refine (Hlast.out _ HT.out).mono ?_; rintro r w11 ⟨rfl, hB⟩; have HB11 := Lib.hid (HB.out.trans (hB.mono HB.out.size)); clear hB)
              go_ret3
              exact ⟨_, by rw [HgoN.out Hfin.out]; exact congrArg (fun z : Nat => Ending.returned (.tuple #[.int .u64 (z : Int), .slice none 0 0, .int .i64 0])) HL.out, by rw [HgoN.out Hfin.out]; exact EsR.nil _ _, HB11.out⟩
            · go_wp2_with (go_at_call 80; refine (Hlast.out _ HT.out).mono ?_; rintro r w11 ⟨rfl, hB⟩; have HB11 := Lib.hid (HB.out.trans (hB.mono HB.out.size)); clear hB)
              go_ret3
              exact ⟨_, by rw [HgoN.out Hfin.out]; exact congrArg (fun z : Nat => Ending.returned (.tuple #[.int .u64 (z : Int), .slice none 0 0, .int .i64 0])) HL.out, by rw [HgoN.out Hfin.out]; exact EsR.nil _ _, HB11.out⟩
      · have d1 : decide (prev < B) = false := by simp; omega
        clear h hr hnn h1 hfit h2 htm hL hlt hpl
        go_enter Try.func36, Try.ntmps36
        go_wp2_with (first
          | (go_at_call 38; refine (HTm.out).mono ?_; rintro r w2 ⟨rfl, hB⟩; have H2 := Lib.hid (H.out.keeps hB.block); have HB2 := Lib.hid hB; clear hB)
          | (go_at_call 80; refine (Hlast.out _ H2.out).mono ?_; rintro r w3 ⟨rfl, hB⟩; have HB4 := Lib.hid (HB2.out.trans (hB.mono HB2.out.size)); clear hB))
        clear HTm
        go_loopw [14] (fun i wr => ∃ k : Nat, k ≤ placedN prev n ∧ i = .int .u64 (k : Int) ∧ Hid (∀ j, j < k → misses B T es prev ss j = false) ∧ Hid (Below w.heap.size w wr)) (fun i _ => n - (intOf i).toNat)
        case atStart => exact ⟨0, Nat.zero_le _, rfl, Lib.hid (fun j hj => by omega), HB4⟩
        case round =>
          obtain ⟨k, hk, rfl, HM, HB⟩ := hrel
          have HT := Lib.hid (H.out.keeps HB.out.block)
          have c0 := HT.out.c0
          have hkn : k ≤ n := by unfold placedN at hk; omega
          have hkp : prev + k ≤ 18446744073709551615 := by unfold placedN at hk; omega
          obtain ⟨y, hy⟩ : ∃ y, y = prev + k := ⟨_, rfl⟩
          have Hy := Lib.hid hy
          have g1 : IntKind.u64.wrap ((prev : Int) + (k : Int)) = (y : Int) := by rw [IntWalk.u64_in _ (by omega)]; omega
          have hyl : y ≤ 18446744073709551615 := by omega
          by_cases hlt : k < placedN prev n
          · have hkn1 : k < n := by unfold placedN at hlt; omega
            have hy1 : y < 18446744073709551615 := by unfold placedN at hlt; omega
            have Hlt := Lib.hid hlt
            obtain ⟨x, hx⟩ : ∃ x, x = y + 1 := ⟨_, rfl⟩
            have Hx := Lib.hid (show x = prev + k + 1 by omega)
            have g2 : IntKind.u64.wrap ((y : Int) + 1) = (x : Int) := by rw [IntWalk.u64_in _ (by omega)]; omega
            have g3 : IntKind.u64.wrap ((x : Int) - 1) = (y : Int) := by rw [IntWalk.u64_in _ (by omega)]; omega
            have d1 : ((y : Int) == 18446744073709551615) = false := by simp; omega
            have d2 : decide ((y : Int) = 18446744073709551615) = false := by simp; omega
            have hx64 : x < 2 ^ 64 := by omega
            have hkS : k < ss.length := by rw [← Hn.out]; exact hkn1
            obtain ⟨b, off, c, d, hv, hRb, hbl, hcell0, hc1, hda, htl⟩ := Hr.out.elemF k hkS
            have hp0 : p0 = some ⟨b, off, none⟩ := by injection hv
            subst hp0
            have hcell := HB.out.cell (p := ⟨b, off + k * 2, none⟩) hbl
            rw [hcell0] at hcell
            have hgk : (ss.getD k (0, [])).1 = ss[k].1 := by rw [getD_of_lt _ _ _ hkS]
            have HgK := Lib.hid hgk
            obtain ⟨q, d9, hsl, hlo⟩ := slice_lo_es (Hr.out.keeps HB.out.block) (l := k) (by omega)
            have Hlo := Lib.hid hlo
            have Hmiss := Lib.hid (show misses B T es prev ss k = (decide (B < x) && (!(termAt B T es x).2 || decide ((termAt B T es x).1 ≠ ss[k].1))) by unfold misses; rw [hgk, Hx.out])
            have g4 : IntKind.u64.wrap (k : Int) = (k : Int) := IntWalk.u64_in _ (by omega)
            have g5 : IntKind.u64.wrap ((k : Int) + 1) = ((k + 1 : Nat) : Int) := by rw [IntWalk.u64_in _ (by omega)]; omega
            generalize ss[k].1 = t at *
            clear hv hy hx hcell0 hc1 hda htl hgk hlo hk hkp hlt hRb hbl
            by_cases hxB : x ≤ B
            · have d3 : decide (x ≤ B) = true := by simp; omega
              have hm0 : misses B T es prev ss k = false := by rw [Hmiss.out]; simp; omega
              have Hm0 := Lib.hid hm0
              clear hm0
              go_wp2
              go_roundw
              case rel => exact ⟨k + 1, Hlt.out, rfl, Lib.hid (all_succ HM.out Hm0.out), HB⟩
              case measure => simp [intOf]; omega
            · have d3 : decide (x ≤ B) = false := by simp; omega
              have hBx : decide (B < x) = true := by simp; omega
              have HTm := Lib.hid (Htm.out _ HT.out x hx64)
              rw [hBx, Bool.true_and] at Hmiss
              clear hBx
              rcases htx : termAt B T es x with ⟨tt, tb⟩
              rw [htx] at Hmiss HTm
              clear htx
              cases tb with
              | false =>
                have Hm1 := Lib.hid (show misses B T es prev ss k = true by rw [Hmiss.out]; rfl)
                go_wp2_with (go_at_call 38; refine (HTm.out).mono ?_; rintro r w10 ⟨rfl, hB⟩; have HB10 := Lib.hid (HB.out.trans (hB.mono HB.out.size)); have HL10 := Lib.hid (Hlo.out.keeps hB.block); clear hB)
                go_quiet (fail)
                go_wp2
                go_ret3
                have hff := find_first HM.out Hm1.out (placedN prev n) Hlt.out
                rw [Hn.out] at hff
                exact ⟨_, by rw [HgoS.out _ hff, Hy.out]; rfl, by rw [HgoS.out _ hff]; exact HL10.out.keeps ((Keeps.refl w10).drewN _), HB10.out.trans ⟨rfl, rfl, rfl, Nat.le_refl _, fun _ _ => rfl⟩⟩
              | true =>
                by_cases htt : tt = t
                · subst htt
                  have Hm0 := Lib.hid (show misses B T es prev ss k = false by rw [Hmiss.out]; simp)
                  go_wp2_with (go_at_call 38; refine (HTm.out).mono ?_; rintro r w10 ⟨rfl, hB⟩; have hcell := (hB.cell (p := ⟨b, off + k * 2, none⟩) (block_lt_of_cell hcell)).trans hcell; have HB10 := Lib.hid (HB.out.trans (hB.mono HB.out.size)); clear hB)
                  go_roundw
                  case rel => exact ⟨k + 1, Hlt.out, rfl, Lib.hid (all_succ HM.out Hm0.out), HB10⟩
                  case measure => simp [intOf]; omega
                · have Hm1 := Lib.hid (show misses B T es prev ss k = true by rw [Hmiss.out]; simp [htt])
                  have d4 : (tt == t) = false := by simp; omega
                  have d5 : decide (tt = t) = false := by simp; omega
                  clear htt
                  go_wp2_with (go_at_call 38; refine (HTm.out).mono ?_; rintro r w10 ⟨rfl, hB⟩; have hcell := (hB.cell (p := ⟨b, off + k * 2, none⟩) (block_lt_of_cell hcell)).trans hcell; have HB10 := Lib.hid (HB.out.trans (hB.mono HB.out.size)); have HL10 := Lib.hid (Hlo.out.keeps hB.block); clear hB)
                  go_quiet (fail)
                  go_wp2
                  go_ret3
                  have hff := find_first HM.out Hm1.out (placedN prev n) Hlt.out
                  rw [Hn.out] at hff
                  exact ⟨_, by rw [HgoS.out _ hff, Hy.out]; rfl, by rw [HgoS.out _ hff]; exact HL10.out.keeps ((Keeps.refl w10).drewN _), HB10.out.trans ⟨rfl, rfl, rfl, Nat.le_refl _, fun _ _ => rfl⟩⟩
          · have hkN : k = placedN prev n := by omega
            have Hfin := Lib.hid (show (List.range (placedN prev ss.length)).find? (misses B T es prev ss) = none by rw [← Hn.out]; exact find_none (by rw [← hkN]; exact HM.out))
            have hend : k = n ∨ (k < n ∧ y = 18446744073709551615) := by unfold placedN at hkN; omega
            clear hk hkN hlt hkp hy hyl hkn
            rcases hend with rfl | ⟨hkn, rfl⟩
            · go_wp2_with (go_at_call 80; refine (Hlast.out _ HT.out).mono ?_; rintro r w11 ⟨rfl, hB⟩; have HB11 := Lib.hid (HB.out.trans (hB.mono HB.out.size)); clear hB)
              go_ret3
              exact ⟨_, by rw [HgoN.out Hfin.out]; exact congrArg (fun z : Nat => Ending.returned (.tuple #[.int .u64 (z : Int), .slice none 0 0, .int .i64 0])) HL.out, by rw [HgoN.out Hfin.out]; exact EsR.nil _ _, HB11.out⟩
            · go_wp2_with (go_at_call 80; refine (Hlast.out _ HT.out).mono ?_; rintro r w11 ⟨rfl, hB⟩; have HB11 := Lib.hid (HB.out.trans (hB.mono HB.out.size)); clear hB)
              go_ret3
              exact ⟨_, by rw [HgoN.out Hfin.out]; exact congrArg (fun z : Nat => Ending.returned (.tuple #[.int .u64 (z : Int), .slice none 0 0, .int .i64 0])) HL.out, by rw [HgoN.out Hfin.out]; exact EsR.nil _ _, HB11.out⟩
end Go.Proofs.Yteellfgiejnigaa
