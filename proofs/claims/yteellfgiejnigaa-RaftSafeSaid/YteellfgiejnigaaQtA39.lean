/- RaftSafe: H62. -/
import Derived.Test.YteellfgiejnigaaQtA00
import Derived.Test.YteellfgiejnigaaQtA38
import Derived.Deep.CutRange
namespace Go.Proofs.Yteellfgiejnigaa
open Go.ChangeShapes Go.WideShapes Go.ChangeAt Go.RowKit Go.Maps
set_option linter.unusedVariables false
section
variable {own own' own0 : Own} {w w' w0 : World} {a i N : Nat} {p g : Nat → Nat} {x : RS.W} {v : Wv}
theorem full_nb {B : Nat} (F : RS.Full x B) (hB : B ≤ 80000) (hT : x.T ≤ 20) {i : Nat} (hi : i < x.n) : Nb (B + 2) (x.r i) := by
 have f := F.nf hi
 have h7 : x.n ≤ 7 := F.small.2.1
 exact nb_of_fm (F.fm i hi) (by rw [f.n]; exact h7) hT f.last hB ⟨f.who.1, by have := f.who.2; omega⟩
theorem full_cm {B : Nat} (F : RS.Full x B) : x.cm.length ≤ B := by
 obtain ⟨_, _, G, nd, l, I, Z⟩ := F.small
 obtain ⟨U, hU⟩ := I.cm
 rcases hU with h | ⟨T, X, _, hX, hp⟩
 · rw [h]; exact Nat.zero_le _
 · exact Nat.le_trans hp.length_le (by obtain ⟨_, k, p, _, _, _, hk, _, rfl⟩ := hX; rw [List.length_take]; have := Z.log T; omega)
theorem sliceR_nat (B : Nat) (es : List Ent) (fr : Nat) {m b : Nat} (h : b < m) : sliceR B es fr ((m : Int) - (b : Int)) = RS.sliceR B es fr (m - b) := by
 unfold sliceR RS.sliceR
 have h2 : ((m : Int) - (b : Int)).toNat = m - b := by omega
 by_cases c : fr ≤ B ∨ B + es.length < fr ∨ m - b < 1
 · rw [if_pos c, if_pos (by omega)]
 · rw [if_neg c, if_neg (by omega), h2]
theorem agree_nd_w (S1 S2 : Foot) (g1 g2 : Nat) (v1 v2 : Value) (ri rk : RS.Rf) (w : World) (h1 : TkAt w S1 g1 ri.base ri.bt v1 ri.es) (h2 : TkAt w S2 g2 rk.base rk.bt v2 rk.es) (M : Nat) (hi : Nb M ri) (hk : Nb M rk) (hM : M ≤ 90000)
 (hag : ∀ low m, ri.base ≤ low → rk.base ≤ low → low < m → m ≤ ri.last → m ≤ rk.last → (RS.termAt ri.base ri.bt ri.es m).1 = (RS.termAt rk.base rk.bt rk.es m).1 → RS.sliceR ri.base ri.es (low + 1) (m - low) = RS.sliceR rk.base rk.es (low + 1) (m - low)) :
 Calls Try.prog 104 #[.pointer (some ⟨g1, 0, none⟩), .pointer (some ⟨g2, 0, none⟩)] w fun e w' => e = .returned (.bool true) ∧ Below w.heap.size w w' := by
 have a1 := hi.len
 have a2 := hk.len
 have a3 := hi.base
 have a4 := hk.base
 have e1 : ∀ e ∈ ri.es, e.2.length ≤ 1000000 := fun e he => by have := (hi.es e he).2; omega
 have e2 : ∀ e ∈ rk.es, e.2.length ≤ 1000000 := fun e he => by have := (hk.es e he).2; omega
 have l1 : ri.last = ri.base + ri.es.length := rfl
 have l2 : rk.last = rk.base + rk.es.length := rfl
 exact agree_w S1 S2 g1 g2 _ _ _ _ v1 v2 _ _ w h1 h2 (by omega) (by omega) e1 e2 (by omega) (by omega) ri.last rk.last l1 l2 _ _ rfl rfl fun m q1 q2 q3 => by rw [sliceR_nat _ _ _ q1, sliceR_nat _ _ _ q1]; exact hag _ m (by omega) (by omega) q1 (by omega) (by omega) q3
theorem WdAt.grown (h : WdAt own w a p g x v) (hB : Below w.heap.size w w') : WdAt (ext own w.heap.size 9) w' a p g x v := h.mv (L := fun _ => False) (Mv.of_below hB 9) fun l e => e.elim
theorem full_leader {B : Nat} (F : RS.Full x B) {T : Nat} (h : x.leaders T ≠ none) : T ≤ B := by
 obtain ⟨_, _, G, nd, l, I, Z⟩ := F.small
 obtain ⟨c, hc⟩ := Option.ne_none_iff_exists'.1 h
 obtain ⟨p, hp, hq⟩ := I.inv.quo T c (I.ls T c hc)
 obtain ⟨q, hqn, e1, _⟩ := RS.maj_meet hp hp
 have h1 := (I.inv.votes T q c hqn (hq q hqn e1).1).2.1
 have S := I.st q hqn
 rw [S.eq] at h1
 exact Nat.le_trans h1 (Z.term q hqn)
theorem WdAt.lead (h : WdAt own w a p g x v) (hg : w.grownBy w' (some v.lp)) {L : Nat → Option Nat} (hl : LdAt w' v.lp L) : WdAt (ext own w.heap.size 9) w' a p g { x with leaders := L } v ∧ Mv (fun l => l = 15) own w (ext own w.heap.size 9) w' := by
 have m : Mv (fun l => l = 15) own w (ext own w.heap.size 9) w' := Mv.of_touch (Touch.of_grownBy (S := fun b => some v.lp = some b) hg fun b e => e) (fun b _ e => by cases e; exact h.ol) 9
 have h7 := h.n7
 exact ⟨⟨h.n7, fun i hi => (h.nd i hi).mv m (by have hi2 : i < x.n := hi; omega), (m.same h.lt (by rw [h.oa]; decide)).trans h.row, (m.lab a h.lt).trans h.oa, h.r.lab m (by decide), h.u.lab m (by decide), h.m.lab m (by decide), h.c.lab m (by decide), hl, (m.lab _ h.l.lt).trans h.ol, h.Tx, h.Nx⟩, m⟩
set_option maxRecDepth 100000 in
set_option maxHeartbeats 2000000 in
theorem safe_w (own : Own) (a : Nat) (p g : Nat → Nat) (x : RS.W) (v : Wv) (w : World) (h : WdAt own w a p g x v) (B : Nat) (F : RS.Full x B) (hB : B ≤ 80000) (hT : x.T ≤ 20) :
 Calls Try.prog 53 #[.pointer (some ⟨a, 0, none⟩)] w fun e w' => e = .returned (.bool true) ∧ Wev own w a (x.looks x.n 0) w' := by
 have hn7 := h.n7
 have HD := zh h
 have HF := zh F
 clear h F
 go_enter Try.func53, Try.ntmps53
 go_upto_region 1 with (fail)
 rename_i K1 hK1
 refine RegT.wp_region_F (fun x y => y = x) (fun _ => rfl) (fun _ _ _ h k => k.trans h) (L := [RegT.pureK]) ?_ rfl
 apply RegT.T_pure rfl rfl rfl
 · intro W hR; clear hR; go_simp; rfl
 simp only [List.set_cons_succ, List.set_cons_zero, Nat.reduceAdd]
 refine RegT.T_end rfl (fun wa hS hf0 => ?_)
 rw [hS]
 clear hf0 hS wa
 refine hK1 _ _ ?_
 go_cut [] from 12 (fun wx => Hid (∃ own' v', WdAt own' wx a p g (x.looks x.n 0) v' ∧ Mv (fun l => l ≠ 9) own w own' wx))
 case first =>
  go_wp2
  go_loopw [3] (fun ix wr => ∃ (k : Nat) (own' : Own) (v' : Wv) (X : RS.W), ix = .int .i64 (k : Int) ∧ k ≤ x.n ∧ X.n = x.n ∧ X.T = x.T ∧ Hid (X.looks (x.n - k) k = x.looks x.n 0) ∧ Hid (WdAt own' wr a p g X v') ∧ Hid (RS.Full X B) ∧ Hid (Mv (fun l => l ≠ 9) own w own' wr)) (fun ix _ => x.n - (intOf ix).toNat)
  case atStart => exact ⟨0, own, v, x, rfl, Nat.zero_le _, rfl, rfl, zh rfl, HD, HF, zh (Mv.refl _ _ _)⟩
  case round =>
   obtain ⟨k, ownk, vk, X, rfl, hk, hXn, hXT, HX, HDk, HFk, HMk⟩ := hrel
   clear HD HF
   by_cases hlt : k < x.n
   · have hkX : k < X.n := by rw [hXn]; exact hlt
     obtain ⟨rb, ro, rc, hrb, hrlt, ha3, hpi⟩ := HDk.out.ptr hkX
     rw [hXn] at ha3
     have d1 : decide (k < x.n) = true := by simpa using hlt
     have d2 : decide ((k : Int) < (x.n : Int)) = true := by simpa using hlt
     have hk0 : (0 : Int) ≤ (k : Int) := by omega
     have hki : (k : Int) < (x.n : Int) := by omega
     have HkX := zh (And.intro hkX (And.intro hXn hXT))
     have Hro := zh (role_w ownk k (p k) (g k) (X.r k) wr (HDk.out.nd k hkX))
     have Hnb := zh (full_nb HFk.out hB (by rw [hXT]; exact hT) hkX)
     have Hlook := zh (HFk.out.look hkX)
     clear hXn hXT hkX hrb hrlt
     have hlk : X.looks (x.n - k) k = (X.look1 k).looks (x.n - (k + 1)) (k + 1) := by rw [show x.n - k = (x.n - (k + 1)) + 1 by omega]; rfl
     have HX1 := zh (hlk.symm.trans HX.out)
     clear hlk
     by_cases h3 : (X.r k).role = 3
     · have e3 : ((X.r k).role == 3) = true := by simpa using h3
       have e4 : (((X.r k).role : Int) == 3) = true := by simp; omega
       have H3 := zh h3
       clear h3
       go_upto_region 6 with (go_at_call 61; refine (Hro.out).mono ?_; rintro e w2 ⟨rfl, rfl⟩)
       clear e3 e4 ha3 hpi d1 d2
       have hterm : (X.r k).term < 1000000 := by have := Hnb.out.term; omega
       obtain ⟨c, hlku, hlkc⟩ := HDk.out.l.look (T := (X.r k).term) (by omega)
       have Hlk := zh hlku
       have Hlp := zh HDk.out.l.lt
       have ha6 : wr.cell? ⟨a, 6, none⟩ = some (.map (some vk.lp)) := HDk.out.cell 6
       have Htm := zh (fun (W : World) (hR : RegT.Grow wr.drew W) => term_w ownk k (p k) (g k) (X.r k) W ((HDk.out.nd k HkX.out.1).kept ((Keeps.refl wr).drew.trans hR.block)))
       have hone := Hlook.out.one H3.out
       have hcase : (X.leaders (X.r k).term).isSome = false ∨ ((X.leaders (X.r k).term).isSome = true ∧ c = (k : Int)) := by
        rcases hone with e | e
        · exact .inl (by rw [e]; rfl)
        · exact .inr ⟨by rw [e]; rfl, hlkc k e⟩
       clear hlku hone hlkc
       generalize (X.leaders (X.r k).term).isSome = bs at *
       apply RegT.wp_region_T rfl 137 12 rfl (by kernel_rfl) RegT.Grow RegT.Grow.refl RegT.Grow.trans
       ·
        iterate 3
         apply RegT.T_pure rfl rfl rfl
         · intro W hR; clear hR; go_simp; rfl
         simp only [List.set_cons_succ, List.set_cons_zero, Nat.reduceAdd]
        apply RegT.T_pure (v := .map (some vk.lp)) rfl rfl rfl
        · intro W hR
          have hc := Keeps.cell hR.block ha6
          clear hR
          go_simp
        simp only [List.set_cons_succ, List.set_cons_zero, Nat.reduceAdd]
        apply RegT.T_pure rfl rfl rfl
        · intro W hR; clear hR; go_simp; rfl
        simp only [List.set_cons_succ, List.set_cons_zero, Nat.reduceAdd]
        apply RegT.T_const rfl rfl rfl (.int .u64 ((X.r k).term : Int)) (fun _ _ h => h)
        · intro W hR hf
          have Hc1 := zh (Htm.out W hR)
          clear hR hf
          go_simp
          exact RegT.OpOK_enter Hc1.out (fun e w' h => ⟨_, h.1, rfl, by rw [← h.2]; exact Below.refl _ _⟩)
        simp only [List.set_cons_succ, List.set_cons_zero, Nat.reduceAdd]
        apply RegT.T_pure (v := .tuple #[.int .i64 c, .bool bs]) rfl rfl rfl
        · intro W hR
          have hc := Hlk.out W (hR.block _ Hlp.out)
          clear hR
          go_simp
        simp only [List.set_cons_succ, List.set_cons_zero, Nat.reduceAdd]
        iterate 5
         apply RegT.T_pure rfl rfl rfl
         · intro W hR; clear hR; go_simp; rfl
         simp only [List.set_cons_succ, List.set_cons_zero, Nat.reduceAdd]
        refine RegT.T_end rfl (fun wb hS hf0 => ?_)
        have hBb : Below wr.heap.size wr wb := (Below.refl wr.heap.size wr).drew.trans hS
        have HDb := zh (HDk.out.mv (L := fun _ => False) (Mv.of_below hBb 9) fun l e => e.elim)
        have HMb := zh (HMk.out.trans ((Mv.of_below (L := fun _ => False) (own := ownk) hBb 9).mono (L' := fun l => l ≠ 9) fun l e => e.elim))
        clear hS hf0 hBb HDk HMk Htm Hlk Hlp ha6
        generalize ext ownk wr.heap.size 9 = ownb at *
        rcases hcase with rfl | ⟨rfl, rfl⟩
        · go_upto_region 9 with (fail)
          have ha6b : wb.cell? ⟨a, 6, none⟩ = some (.map (some vk.lp)) := HDb.out.cell 6
          have Htmb := zh (fun (W : World) (hR : RegT.Grow wb.drew W) => term_w ownb k (p k) (g k) (X.r k) W ((HDb.out.nd k HkX.out.1).kept ((Keeps.refl wb).drew.trans hR.block)))
          apply RegT.wp_region_T rfl 137 7 rfl (by kernel_rfl) RegT.Grow RegT.Grow.refl RegT.Grow.trans
          ·
           iterate 3
            apply RegT.T_pure rfl rfl rfl
            · intro W hR; clear hR; go_simp; rfl
            simp only [List.set_cons_succ, List.set_cons_zero, Nat.reduceAdd]
           apply RegT.T_pure (v := .map (some vk.lp)) rfl rfl rfl
           · intro W hR
             have hc := Keeps.cell hR.block ha6b
             clear hR
             go_simp
           simp only [List.set_cons_succ, List.set_cons_zero, Nat.reduceAdd]
           apply RegT.T_pure rfl rfl rfl
           · intro W hR; clear hR; go_simp; rfl
           simp only [List.set_cons_succ, List.set_cons_zero, Nat.reduceAdd]
           apply RegT.T_const rfl rfl rfl (.int .u64 ((X.r k).term : Int)) (fun _ _ h => h)
           · intro W hR hf
             have Hc1 := zh (Htmb.out W hR)
             clear hR hf
             go_simp
             exact RegT.OpOK_enter Hc1.out (fun e w' h => ⟨_, h.1, rfl, by rw [← h.2]; exact Below.refl _ _⟩)
           simp only [List.set_cons_succ, List.set_cons_zero, Nat.reduceAdd]
           apply RegT.T_pure rfl rfl rfl
           · intro W hR; clear hR; go_simp; rfl
           simp only [List.set_cons_succ, List.set_cons_zero, Nat.reduceAdd]
           refine RegT.T_tail (fun W hR hf0 => ?_)
           have hBw : Below wb.heap.size wb W := (Below.refl wb.heap.size wb).drew.trans hR
           have HDw := zh (HDb.out.mv (L := fun _ => False) (Mv.of_below hBw 9) fun l e => e.elim)
           have HMw := zh (HMb.out.trans ((Mv.of_below (L := fun _ => False) (own := ownb) hBw 9).mono (L' := fun l => l ≠ 9) fun l e => e.elim))
           clear hR hf0 hBw HDb HMb Htmb ha6b
           generalize ext ownb wb.heap.size 9 = ownw at *
           obtain ⟨D, hD⟩ := HDw.out.l
           have hsz : Maps.size D < maxLen := by
            have h1 := hD.2.1
            have h2 := List.countP_le_length (p := fun T => (X.leaders T).isSome) (l := List.range 1000000)
            rw [List.length_range] at h2
            unfold maxLen; omega
           have HD' := zh hD
           have hown := hD.1
           clear hD
           simp only [List.drop_succ_cons, List.drop_zero]
           go_upto_region 10 with (at_mapUpdate; refine wpList_mapUpdate_own _ rfl _ _ _ 143 rfl 22 3 law22 Try.underlying143 _ vk.lp (Maps.size D) D rfl hown hsz _ _ _ rfl rfl (u64_key (by omega)) _ [] (plainElem_int Try.underlying3 (Go.WalkArith.wf_i64 ⟨by omega, by omega⟩)) ?_; intro w9 hown9 hgrow9)
           have hl9 := HDw.out.l.put hterm (show k < 7 by omega) HD'.out hown9
           obtain ⟨hD9, hM9⟩ := HDw.out.lead hgrow9 hl9
           have HD9 := zh hD9
           have HM9 := zh (HMw.out.trans (hM9.mono (L' := fun l => l ≠ 9) fun l e => by omega))
           clear hown hsz hown9 hgrow9 hl9 hD9 hM9 HDw HMw HD'
           have Htl := zh (told_w _ a p g { X with leaders := fun t => if t = (X.r k).term then some k else X.leaders t } vk w9 HD9.out k HkX.out.1 (B + 2) Hnb.out (by omega) ⟨fun _ => .inr (if_pos rfl), Hlook.out.bc, Hlook.out.bm, Hlook.out.at_, Hlook.out.len, Hlook.out.eq⟩ (by have := full_cm HFk.out; show X.cm.length ≤ 100000; omega))
           go_upto_region 3 with (go_at_call 102; refine (Htl.out).mono ?_; rintro e w3 ⟨rfl, own3, v3, h3, m3, _⟩; have HD3 := zh h3; have HM3 := zh (HM9.out.trans (m3.mono fun l e => by omega)); clear h3 m3)
           go_wp2
           go_roundw
           case rel =>
            have e9 : X.look1 k = { X with leaders := fun t => if t = (X.r k).term then some k else X.leaders t, cm := RS.tell X.cm (X.r k) } := by unfold RS.W.look1; rw [if_pos H3.out]
            have hF := HFk.out.look1 HkX.out.1
            refine ⟨k + 1, own3, v3, X.look1 k, by go_num, by omega, HkX.out.2.1, HkX.out.2.2, HX1, zh ?_, zh hF, HM3⟩
            rw [e9]; exact HD3.out
           case measure => simp [intOf]; omega
          · rfl
          · kernel_rfl
        · go_upto_region 9 with (fail)
          have ha6b : wb.cell? ⟨a, 6, none⟩ = some (.map (some vk.lp)) := HDb.out.cell 6
          have Htmb := zh (fun (W : World) (hR : RegT.Grow wb.drew W) => term_w ownb k (p k) (g k) (X.r k) W ((HDb.out.nd k HkX.out.1).kept ((Keeps.refl wb).drew.trans hR.block)))
          apply RegT.wp_region_T rfl 137 7 rfl (by kernel_rfl) RegT.Grow RegT.Grow.refl RegT.Grow.trans
          ·
           iterate 3
            apply RegT.T_pure rfl rfl rfl
            · intro W hR; clear hR; go_simp; rfl
            simp only [List.set_cons_succ, List.set_cons_zero, Nat.reduceAdd]
           apply RegT.T_pure (v := .map (some vk.lp)) rfl rfl rfl
           · intro W hR
             have hc := Keeps.cell hR.block ha6b
             clear hR
             go_simp
           simp only [List.set_cons_succ, List.set_cons_zero, Nat.reduceAdd]
           apply RegT.T_pure rfl rfl rfl
           · intro W hR; clear hR; go_simp; rfl
           simp only [List.set_cons_succ, List.set_cons_zero, Nat.reduceAdd]
           apply RegT.T_const rfl rfl rfl (.int .u64 ((X.r k).term : Int)) (fun _ _ h => h)
           · intro W hR hf
             have Hc1 := zh (Htmb.out W hR)
             clear hR hf
             go_simp
             exact RegT.OpOK_enter Hc1.out (fun e w' h => ⟨_, h.1, rfl, by rw [← h.2]; exact Below.refl _ _⟩)
           simp only [List.set_cons_succ, List.set_cons_zero, Nat.reduceAdd]
           apply RegT.T_pure rfl rfl rfl
           · intro W hR; clear hR; go_simp; rfl
           simp only [List.set_cons_succ, List.set_cons_zero, Nat.reduceAdd]
           refine RegT.T_tail (fun W hR hf0 => ?_)
           have hBw : Below wb.heap.size wb W := (Below.refl wb.heap.size wb).drew.trans hR
           have HDw := zh (HDb.out.mv (L := fun _ => False) (Mv.of_below hBw 9) fun l e => e.elim)
           have HMw := zh (HMb.out.trans ((Mv.of_below (L := fun _ => False) (own := ownb) hBw 9).mono (L' := fun l => l ≠ 9) fun l e => e.elim))
           clear hR hf0 hBw HDb HMb Htmb ha6b
           generalize ext ownb wb.heap.size 9 = ownw at *
           obtain ⟨D, hD⟩ := HDw.out.l
           have hsz : Maps.size D < maxLen := by
            have h1 := hD.2.1
            have h2 := List.countP_le_length (p := fun T => (X.leaders T).isSome) (l := List.range 1000000)
            rw [List.length_range] at h2
            unfold maxLen; omega
           have HD' := zh hD
           have hown := hD.1
           clear hD
           simp only [List.drop_succ_cons, List.drop_zero]
           go_upto_region 10 with (at_mapUpdate; refine wpList_mapUpdate_own _ rfl _ _ _ 143 rfl 22 3 law22 Try.underlying143 _ vk.lp (Maps.size D) D rfl hown hsz _ _ _ rfl rfl (u64_key (by omega)) _ [] (plainElem_int Try.underlying3 (Go.WalkArith.wf_i64 ⟨by omega, by omega⟩)) ?_; intro w9 hown9 hgrow9)
           have hl9 := HDw.out.l.put hterm (show k < 7 by omega) HD'.out hown9
           obtain ⟨hD9, hM9⟩ := HDw.out.lead hgrow9 hl9
           have HD9 := zh hD9
           have HM9 := zh (HMw.out.trans (hM9.mono (L' := fun l => l ≠ 9) fun l e => by omega))
           clear hown hsz hown9 hgrow9 hl9 hD9 hM9 HDw HMw HD'
           have Htl := zh (told_w _ a p g { X with leaders := fun t => if t = (X.r k).term then some k else X.leaders t } vk w9 HD9.out k HkX.out.1 (B + 2) Hnb.out (by omega) ⟨fun _ => .inr (if_pos rfl), Hlook.out.bc, Hlook.out.bm, Hlook.out.at_, Hlook.out.len, Hlook.out.eq⟩ (by have := full_cm HFk.out; show X.cm.length ≤ 100000; omega))
           go_upto_region 3 with (go_at_call 102; refine (Htl.out).mono ?_; rintro e w3 ⟨rfl, own3, v3, h3, m3, _⟩; have HD3 := zh h3; have HM3 := zh (HM9.out.trans (m3.mono fun l e => by omega)); clear h3 m3)
           go_wp2
           go_roundw
           case rel =>
            have e9 : X.look1 k = { X with leaders := fun t => if t = (X.r k).term then some k else X.leaders t, cm := RS.tell X.cm (X.r k) } := by unfold RS.W.look1; rw [if_pos H3.out]
            have hF := HFk.out.look1 HkX.out.1
            refine ⟨k + 1, own3, v3, X.look1 k, by go_num, by omega, HkX.out.2.1, HkX.out.2.2, HX1, zh ?_, zh hF, HM3⟩
            rw [e9]; exact HD3.out
           case measure => simp [intOf]; omega
          · rfl
          · kernel_rfl
       · rfl
       · kernel_rfl
     · have e3 : ((X.r k).role == 3) = false := by simpa using h3
       have e4 : (((X.r k).role : Int) == 3) = false := by simp; omega
       have H3 := zh h3
       clear h3
       have Htl := zh (told_w ownk a p g X vk wr HDk.out k HkX.out.1 (B + 2) Hnb.out (by omega) Hlook.out (by have := full_cm HFk.out; omega))
       go_upto_region 3 with (first
        | (go_at_call 61; refine (Hro.out).mono ?_; rintro e w2 ⟨rfl, rfl⟩)
        | (go_at_call 102; refine (Htl.out).mono ?_; rintro e w3 ⟨rfl, own3, v3, h3, m3, _⟩; have HD3 := zh h3; have HM3 := zh (HMk.out.trans (m3.mono fun l e => by omega)); clear h3 m3))
       go_wp2
       go_roundw
       case rel =>
        have e9 : X.look1 k = { X with cm := RS.tell X.cm (X.r k) } := by unfold RS.W.look1; rw [if_neg H3.out]
        have hF := HFk.out.look1 HkX.out.1
        refine ⟨k + 1, own3, v3, X.look1 k, by go_num, by omega, HkX.out.2.1, HkX.out.2.2, HX1, zh ?_, zh hF, HM3⟩
        rw [e9]; exact HD3.out
       case measure => simp [intOf]; omega
   · have d1 : decide (k < x.n) = false := by simpa using hlt
     have d2 : decide ((k : Int) < (x.n : Int)) = false := by simp; omega
     obtain rfl : k = x.n := by omega
     have hrn : vk.rn = x.n := by obtain ⟨_, _, e⟩ := HDk.out.r.form; rw [← hXn]; injection e with _ e; rw [e, List.length_map, List.length_range]
     have ha3 : wr.cell? ⟨a, 3, none⟩ = some (.slice vk.rp x.n vk.rc) := (HDk.out.cell 3).trans (by rw [← hrn]; rfl)
     clear hrn
     go_wp2
     go_meet
     have h9 := HX.out
     rw [Nat.sub_self] at h9
     have h10 : X = x.looks x.n 0 := h9
     rw [← h10]
     exact zh ⟨_, _, HDk.out, HMk.out⟩
 case rest =>
  obtain ⟨own2, v2, hD2, hM2⟩ := hcut.out
  have HD2 := zh hD2
  have HM2 := zh hM2
  clear hcut hD2 hM2 HD
  obtain ⟨e1, e2, e3, e4, e5⟩ := RS.looks_same x.n 0 x
  have hbf := HF.out.bf
  have HSf := zh hbf.2
  have HF2 := zh hbf.1.full
  clear hbf e1 e2 e5
  obtain ⟨Y, hY⟩ : ∃ Y, Y = x.looks x.n 0 := ⟨_, rfl⟩
  rw [← hY] at HD2 HSf HF2 e3 e4
  have HY := zh hY
  have HnT := zh (And.intro e3 e4)
  have hYn : Y.n ≤ 7 := by rw [e3]; exact hn7
  have hYT : Y.T ≤ 20 := by rw [e4]; exact hT
  clear hY e3 e4 HF
  go_wp2
  go_loopw [7] (fun ix wr => ∃ (k : Nat) (own' : Own), ix = .int .i64 (k : Int) ∧ k ≤ Y.n ∧ Hid (WdAt own' wr a p g Y v2) ∧ Hid (Mv (fun l => l ≠ 9) own w own' wr)) (fun ix _ => Y.n - (intOf ix).toNat)
  case atStart => exact ⟨0, own2, rfl, Nat.zero_le _, HD2, HM2⟩
  case round =>
   obtain ⟨k, ownk, rfl, hk, HDk, HMk⟩ := hrel
   clear HD2 HM2
   by_cases hlt : k < Y.n
   · obtain ⟨rb, ro, rc, hrb, hrlt, ha3, hpi⟩ := HDk.out.ptr hlt
     have d1 : decide (k < Y.n) = true := by simpa using hlt
     have d2 : decide ((k : Int) < (Y.n : Int)) = true := by simpa using hlt
     have hk0 : (0 : Int) ≤ (k : Int) := by omega
     have hki : (k : Int) < (Y.n : Int) := by omega
     have Hnb := zh (full_nb HF2.out hB hYT hlt)
     have Htr := zh (track_w ownk k (p k) (g k) (Y.r k) wr (HDk.out.nd k hlt) (B + 2) Hnb.out)
     have Hlt := zh hlt
     clear hrb hrlt hlt
     go_upto_region 16 with (go_at_call 66; refine (Htr.out).mono ?_; rintro e w3 ⟨N3, v3, rfl, hN3, htk3, hB3⟩; have HB3 := zh hB3; have HT3 := zh htk3; clear hB3 htk3)
     have HD3 := zh (HDk.out.grown HB3.out)
     have HM3 := zh (HMk.out.trans ((Mv.of_below (L := fun _ => False) (own := ownk) HB3.out 9).mono (L' := fun l => l ≠ 9) fun l e => e.elim))
     have Hti := zh (tip_w _ N3 (Y.r k).base (Y.r k).bt v3 (Y.r k).es w3 HT3.out (by have := Hnb.out.len; omega))
     obtain ⟨last, hlast⟩ : ∃ n, n = (Y.r k).base + (Y.r k).es.length := ⟨_, rfl⟩
     obtain ⟨tt, htt⟩ : ∃ n, n = tipT (Y.r k).bt (Y.r k).es := ⟨_, rfl⟩
     rw [← hlast, ← htt] at Hti
     have Hla := zh hlast
     have Htt := zh htt
     have hlb : last ≤ 200000 := by have h1 := Hnb.out.base; have h2 := Hnb.out.len; omega
     clear hlast htt HDk HMk HB3 ha3 hpi d1 d2 Htr
     generalize ext ownk wr.heap.size 9 = own3 at *
     go_upto_region 17 with (go_at_call 23; refine (Hti.out).mono ?_; rintro e w4 ⟨rfl, hB4⟩; have HB4 := zh hB4; clear hB4)
     have HD4 := zh (HD3.out.grown HB4.out)
     have HM4 := zh (HM3.out.trans ((Mv.of_below (L := fun _ => False) (own := own3) HB4.out 9).mono (L' := fun l => l ≠ 9) fun l e => e.elim))
     have HT4 := zh (HT3.out.keeps HB4.out.block)
     clear HD3 HM3 HT3 HB4 Hti
     generalize ext own3 w3.heap.size 9 = own4 at *
     go_cut [110] from 111 to 136 (fun t wx => Hid (t = .bool false ∧ ∃ own', WdAt own' wx a p g Y v2 ∧ TkAt wx (fun b => wr.heap.size ≤ b) N3 (Y.r k).base (Y.r k).bt v3 (Y.r k).es ∧ Mv (fun l => l ≠ 9) own w own' wx))
     case first =>
      obtain ⟨rb, ro, rc, hrb, hrlt, ha3, hpi⟩ := HD4.out.ptr Hlt.out
      have Hro := zh (role_w own4 k (p k) (g k) (Y.r k) w4 (HD4.out.nd k Hlt.out))
      have Hte := zh (term_w own4 k (p k) (g k) (Y.r k) w4 (HD4.out.nd k Hlt.out))
      have ha7 : w4.cell? ⟨a, 7, none⟩ = some (.slice v2.cp v2.cn v2.cc) := HD4.out.cell 7
      have hcn : v2.cn = Y.cm.length := by obtain ⟨_, _, e⟩ := HD4.out.c.form; injection e
      have hcm := full_cm HF2.out
      have c1 : IntKind.u64.wrap (v2.cn : Int) = (v2.cn : Int) := IntWalk.u64_in _ (by omega)
      have Hcn := zh hcn
      clear hcn hrb hrlt hcm
      by_cases h3 : (Y.r k).role = 3
      · have e3 : ((Y.r k).role == 3) = true := by simpa using h3
        have e4 : (((Y.r k).role : Int) == 3) = true := by simp; omega
        have H3 := zh h3
        clear h3
        by_cases hl : last < v2.cn
        · have f1 : decide (last < v2.cn) = true := by simpa using hl
          have f2 : decide ((last : Int) < (v2.cn : Int)) = true := by simpa using hl
          obtain ⟨T0, hT0, hlt0⟩ := HSf.out.newest k Hlt.out H3.out (by show (Y.r k).base + (Y.r k).es.length < _; rw [← Hla.out, ← Hcn.out]; exact hl)
          have Hnw := zh (newest_w own4 a p g Y v2 w4 HD4.out (Y.r k).term T0 hT0 hlt0 (by have := full_leader HF2.out hT0; omega))
          clear hl hT0
          go_wp2_with (first
           | (go_at_call 61; refine (Hro.out).mono ?_; rintro e w5 ⟨rfl, rfl⟩)
           | (go_at_call 62; refine (Hte.out).mono ?_; rintro e w5 ⟨rfl, rfl⟩)
           | (go_at_call 103; refine (Hnw.out).mono ?_; rintro e w5 ⟨rfl, hB5⟩; have HB5 := zh hB5; clear hB5))
          go_meet
          exact zh ⟨rfl, _, HD4.out.grown HB5.out, HT4.out.keeps HB5.out.block, HM4.out.trans ((Mv.of_below (L := fun _ => False) (own := own4) HB5.out 9).mono (L' := fun l => l ≠ 9) fun l e => e.elim)⟩
        · have f1 : decide (last < v2.cn) = false := by simpa using hl
          have f2 : decide ((last : Int) < (v2.cn : Int)) = false := by simp; omega
          clear hl
          go_wp2_with (go_at_call 61; refine (Hro.out).mono ?_; rintro e w5 ⟨rfl, rfl⟩)
          go_meet
          exact zh ⟨rfl, own4, HD4.out, HT4.out, HM4.out⟩
      · have e3 : ((Y.r k).role == 3) = false := by simpa using h3
        have e4 : (((Y.r k).role : Int) == 3) = false := by simp; omega
        clear h3
        go_wp2_with (go_at_call 61; refine (Hro.out).mono ?_; rintro e w5 ⟨rfl, rfl⟩)
        go_meet
        exact zh ⟨rfl, own4, HD4.out, HT4.out, HM4.out⟩
     case rest =>
      obtain ⟨rfl, own5, hD5, hT5, hM5⟩ := hcut.out
      have HD5 := zh hD5
      have HT5 := zh hT5
      have HM5 := zh hM5
      clear hcut hD5 hT5 hM5 HD4 HT4 HM4
      go_wp2
      go_loopw [11] (fun iy wz => ∃ (j : Nat) (own' : Own), iy = .int .i64 (j : Int) ∧ j ≤ k ∧ Hid (WdAt own' wz a p g Y v2) ∧ Hid (TkAt wz (fun b => wr.heap.size ≤ b) N3 (Y.r k).base (Y.r k).bt v3 (Y.r k).es) ∧ Hid (Mv (fun l => l ≠ 9) own w own' wz)) (fun iy _ => k - (intOf iy).toNat)
      case atStart => exact ⟨0, own5, rfl, Nat.zero_le _, HD5, HT5, HM5⟩
      case round =>
       obtain ⟨j, ownz, rfl, hj, HDz, HTz, HMz⟩ := hrel
       clear HD5 HT5 HM5
       by_cases hjk : j < k
       · have d1 : decide (j < k) = true := by simpa using hjk
         have d2 : decide ((j : Int) < (k : Int)) = true := by simpa using hjk
         have hjn : j < Y.n := by have := Hlt.out; omega
         obtain ⟨rb, ro, rc, hrb, hrlt, ha3, hpi⟩ := HDz.out.ptr hjn
         have hj0 : (0 : Int) ≤ (j : Int) := by omega
         have hji : (j : Int) < (Y.n : Int) := by omega
         have Hnbj := zh (full_nb HF2.out hB hYT hjn)
         have Htrj := zh (track_w ownz j (p j) (g j) (Y.r j) wr (HDz.out.nd j hjn) (B + 2) Hnbj.out)
         have Hjn := zh hjn
         clear hrb hrlt hjn
         go_upto_region 21 with (first
          | (go_at_call 66; refine (Htrj.out).mono ?_; rintro e w6 ⟨N4, v4, rfl, hN4, htk4, hB6⟩; have HB6 := zh hB6
             have Hag := zh (agree_nd_w _ _ N3 N4 v3 v4 (Y.r k) (Y.r j) w6 (HTz.out.keeps hB6.block) htk4 (B + 2) Hnb.out Hnbj.out (by omega) (fun low m q1 q2 q3 q4 q5 q6 => HSf.out.agree k j Hlt.out Hjn.out low m q1 q2 q3 q4 q5 q6)); clear hB6 htk4)
          | (go_at_call 104; refine (Hag.out).mono ?_; rintro e w7 ⟨rfl, hB7⟩; have HB7 := zh hB7; clear hB7))
         have hB8 := HB6.out.trans (HB7.out.mono HB6.out.size)
         have HD8 := zh (HDz.out.grown hB8)
         have HT8 := zh (HTz.out.keeps hB8.block)
         have HM8 := zh (HMz.out.trans ((Mv.of_below (L := fun _ => False) (own := ownz) hB8 9).mono (L' := fun l => l ≠ 9) fun l e => e.elim))
         clear hB8 HDz HTz HMz HB6 HB7 Hag Htrj ha3 hpi d1 d2
         go_wp2
         go_roundw
         case rel => exact ⟨j + 1, _, by go_num, by omega, HD8, HT8, HM8⟩
         case measure => simp [intOf]; omega
       · have d1 : decide (j < k) = false := by simpa using hjk
         have d2 : decide ((j : Int) < (k : Int)) = false := by simp; omega
         obtain ⟨rb, ro, rc, hrb, hrlt, ha3, hpi⟩ := HDz.out.ptr Hlt.out
         have Hte := zh (term_w ownz k (p k) (g k) (Y.r k) wr (HDz.out.nd k Hlt.out))
         have htip : tt ≤ (Y.r k).term := by rw [Htt.out, ← tipT_rs]; exact HSf.out.tip k Hlt.out
         have f1 : decide ((Y.r k).term < tt) = false := by simp; omega
         have f2 : decide (((Y.r k).term : Int) < (tt : Int)) = false := by simp; omega
         clear hrb hrlt htip
         go_wp2_with (go_at_call 62; refine (Hte.out).mono ?_; rintro e w8 ⟨rfl, rfl⟩)
         go_roundw
         case rel => exact ⟨k + 1, _, by go_num, Hlt.out, HDz, HMz⟩
         case measure => have := Hlt.out; simp [intOf]; omega
   · have d1 : decide (k < Y.n) = false := by simpa using hlt
     have d2 : decide ((k : Int) < (Y.n : Int)) = false := by simp; omega
     have hrn : v2.rn = Y.n := by obtain ⟨_, _, e⟩ := HDk.out.r.form; injection e with _ e; rw [e, List.length_map, List.length_range]
     have ha3 : wr.cell? ⟨a, 3, none⟩ = some (.slice v2.rp Y.n v2.rc) := (HDk.out.cell 3).trans (by rw [← hrn]; rfl)
     clear hrn
     go_wp2
     go_ret
     rw [← HY.out]
     exact ⟨rfl, _, _, _, _, HDk.out, HMk.out⟩
end
end Go.Proofs.Yteellfgiejnigaa
