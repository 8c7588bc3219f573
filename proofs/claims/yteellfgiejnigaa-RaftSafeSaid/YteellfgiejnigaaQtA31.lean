/- RaftSafe: G53. -/
import Derived.Test.YteellfgiejnigaaQtA00
import Derived.Test.YteellfgiejnigaaQtA30
import Derived.Deep.Cut
namespace Go.Proofs.Yteellfgiejnigaa
open Go.ChangeShapes Go.WideShapes Go.ChangeAt Go.RowKit
set_option linter.unusedVariables false
section
variable {own own' own0 : Own} {w w' w0 : World} {a i N : Nat} {p g : Nat → Nat} {x : RS.W} {v : Wv} {L : Nat → Prop} {ov : Ov} {o : RS.Ou}
theorem room_step (ms l : List RS.Mail) {k : Nat} (h : k = l.length ∨ ms.length + k = 600) (h6 : ms.length + k ≤ 600) (hk : k ≤ l.length) : ms ++ l.take k = RS.room ms l := by
 unfold RS.room
 rcases h with h | h
 · rw [List.take_of_length_le (by omega), List.take_of_length_le (by omega)]
 · rw [show 600 - ms.length = k by omega]
theorem take_one {α : Type} {l : List α} {k : Nat} (h : k < l.length) : l.take (k + 1) = l.take k ++ [l[k]] := List.take_succ_eq_append_getElem h
set_option maxRecDepth 100000 in
set_option maxHeartbeats 4000000 in
theorem sent_w (own : Own) (a : Nat) (p g : Nat → Nat) (x : RS.W) (v : Wv) (w : World) (h : WdAt own w a p g x v) (i : Nat) (hi : i < x.n) (M : Nat) (hb : Nb M (x.r i)) (hM : M ≤ 90000) (ov : Ov) (o : RS.Ou) (ho : OvAt w (fun b => own b = 7) ov o) (hs : ∀ q ∈ o.send, RS.Mf M q.2) (hm6 : x.mails.length ≤ 600) :
 Calls Try.prog 98 #[.pointer (some ⟨a, 0, none⟩), .int .i64 (i : Int), .agg #[.bool ov.vo, .bool ov.sh, .int .u8 ov.f0, .int .u64 ov.f1, .int .u64 ov.f2, .int .u64 ov.f3, .int .u64 ov.f4, .int .u64 ov.f5, .bool ov.f6, .slice ov.f7p ov.f7n ov.f7c, .slice ov.f8p ov.f8n ov.f8c, .bool ov.cu, .int .u64 ov.ke, .slice ov.ap ov.an ov.ac, .slice ov.sp ov.sn ov.sc, .slice ov.np ov.nn ov.nc]] w fun e w' => (∃ v, e = .returned v) ∧ ∃ own' v', WdAt own' w' a p g (x.sent i o) v' ∧ Mv (fun l => l = 10 ∨ l = 13) own w own' w' ∧ ∀ k, k ≠ 5 → w'.cell? ⟨a, k, none⟩ = w.cell? ⟨a, k, none⟩ := by
 have hn7 := h.n7
 obtain ⟨w1, hw1⟩ : ∃ w1, w.alloc (.cells #[.bool ov.vo, .bool ov.sh, .int .u8 ov.f0, .int .u64 ov.f1, .int .u64 ov.f2, .int .u64 ov.f3, .int .u64 ov.f4, .int .u64 ov.f5, .bool ov.f6, .slice ov.f7p ov.f7n ov.f7c, .slice ov.f8p ov.f8n ov.f8c, .bool ov.cu, .int .u64 ov.ke, .slice ov.ap ov.an ov.ac, .slice ov.sp ov.sn ov.sc, .slice ov.np ov.nn ov.nc] 100) = w1 := ⟨_, rfl⟩
 have m1 : Mv (fun _ => False) own w (ext own w.heap.size 9) (w.alloc (.cells #[.bool ov.vo, .bool ov.sh, .int .u8 ov.f0, .int .u64 ov.f1, .int .u64 ov.f2, .int .u64 ov.f3, .int .u64 ov.f4, .int .u64 ov.f5, .bool ov.f6, .slice ov.f7p ov.f7n ov.f7c, .slice ov.f8p ov.f8n ov.f8c, .bool ov.cu, .int .u64 ov.ke, .slice ov.ap ov.an ov.ac, .slice ov.sp ov.sn ov.sc, .slice ov.np ov.nn ov.nc] 100)) := Mv.alloc own w _ 9
 have hS1 : SnC own w (ext own w.heap.size 9) (w.alloc (.cells #[.bool ov.vo, .bool ov.sh, .int .u8 ov.f0, .int .u64 ov.f1, .int .u64 ov.f2, .int .u64 ov.f3, .int .u64 ov.f4, .int .u64 ov.f5, .bool ov.f6, .slice ov.f7p ov.f7n ov.f7c, .slice ov.f8p ov.f8n ov.f8c, .bool ov.cu, .int .u64 ov.ke, .slice ov.ap ov.an ov.ac, .slice ov.sp ov.sn ov.sc, .slice ov.np ov.nn ov.nc] 100)) a p g { x with mails := x.mails ++ (RS.W.sends i o).take 0 } v ov o w.heap.size :=
  ⟨by rw [List.take_zero, List.append_nil]; exact h.mv m1 fun l e => e.elim, Bx.new own w _ 100, ho.lab m1 id, m1.mono fun l e => e.elim, fun k _ => World.cell?_of_block (a := ⟨a, k, none⟩) (m1.same h.lt id)⟩
 have Hsn := zh (show ov.sn = o.send.length by obtain ⟨_, _, e⟩ := ho.se.form; injection e)
 have Hnn := zh (show ov.nn = o.need.length by obtain ⟨_, _, e⟩ := ho.ne.form; injection e)
 have Hsl : (RS.W.sends i o).length = o.send.length := List.length_map ..
 have Hnl : (RS.W.needs i (x.r i) o).length = o.need.length := List.length_map ..
 rw [hw1] at hS1
 have HS1 := zh hS1
 have HW := zh hw1
 have Hms := zh hs
 have Hb := zh hb
 clear h hS1 hw1 hs hb ho m1
 go_enter Try.func98, Try.ntmps98
 go_upto_region 1 with (fail)
 rw [HW.out]
 generalize ext own w.heap.size 9 = own1 at *
 rename_i K1 hK1
 refine RegT.wp_region_F (fun x y => y = x) (fun _ => rfl) (fun _ _ _ h k => k.trans h) (L := [RegT.pureK]) ?_ rfl
 apply RegT.T_pure rfl rfl rfl
 · intro W hR; clear hR; go_simp; rfl
 simp only [List.set_cons_succ, List.set_cons_zero, Nat.reduceAdd]
 refine RegT.T_end rfl (fun wa hS hf0 => ?_)
 subst hS
 clear hf0
 refine hK1 _ _ ?_
 go_cut [] from 10 (fun wx => Hid (∃ own' v', SnC own w own' wx a p g { x with mails := RS.room x.mails (RS.W.sends i o) } v' ov o w.heap.size))
 case first =>
  go_wp2
  go_loopw [6] (fun ix wr => ∃ (k : Nat) (own' : Own) (v' : Wv), ix = .int .i64 (k : Int) ∧ k ≤ o.send.length ∧ x.mails.length + k ≤ 600 ∧ Hid (SnC own w own' wr a p g { x with mails := x.mails ++ (RS.W.sends i o).take k } v' ov o w.heap.size)) (fun ix _ => o.send.length - (intOf ix).toNat)
  case atStart => exact ⟨0, own1, v, rfl, Nat.zero_le _, hm6, HS1⟩
  case round =>
  obtain ⟨k, ownk, vk, rfl, hk, hk6, HSk⟩ := hrel
  clear HS1
  have HMl := zh (show (x.mails ++ (RS.W.sends i o).take k).length = x.mails.length + k by rw [List.length_append, List.length_take, Hsl]; omega)
  have hmn : vk.mn = x.mails.length + k := by obtain ⟨_, _, e⟩ := HSk.out.wd.m.form; rw [← HMl.out]; injection e
  have hb14 : wr.cell? ⟨w.heap.size, 14, none⟩ = some (.slice ov.sp ov.sn ov.sc) := HSk.out.b.c 14
  have ha5 : wr.cell? ⟨a, 5, none⟩ = some (.slice vk.mp vk.mn vk.mc) := HSk.out.wd.cell 5
  have ha8 : wr.cell? ⟨a, 8, none⟩ = some (.int .i64 600) := HSk.out.wd.cell 8
  by_cases c1 : k < ov.sn
  · have d1 : decide (k < ov.sn) = true := by simpa using c1
    have d2 : decide ((k : Int) < (ov.sn : Int)) = true := by simpa using c1
    by_cases c2 : vk.mn < 600
    · have d3 : decide (vk.mn < 600) = true := by simpa using c2
      have d4 : decide ((vk.mn : Int) < 600) = true := by simp; omega
      go_upto_region 2 with (fail)
      go_quiet (fail)
      have HS4 := zh (HSk.out.drewN nq)
      clear HSk hb14 ha5 ha8
      generalize wr.drewN nq = w4 at *
      go_upto_region 4 with (fail)
      clear d1 d2 d3 d4
      have hks : k < o.send.length := by have := Hsn.out; omega
      obtain ⟨eb, eo, ec, cs, hsv, heb, helt, hrange, to_ds⟩ := HS4.out.ov.se.rd.elem k hks
      obtain ⟨ds, rfl, lv, dv, rfl, hlv, hdv⟩ := to_ds
      obtain ⟨pl, cl, rfl⟩ := hlv.len_form
      obtain ⟨pd, cd, rfl, _⟩ := hdv.rd
      have e1 : ov.sp = some ⟨eb, eo, none⟩ := by injection hsv
      have Hmail := zh (show (RS.W.sends i o).take (k + 1) = (RS.W.sends i o).take k ++ [(⟨i, o.send[k].1, o.send[k].2⟩ : RS.Mail)] from (take_one (by rw [Hsl]; exact hks)).trans (by simp [RS.W.sends]))
      have Hmfk := zh (Hms.out o.send[k] (List.getElem_mem _))
      generalize o.send[k].1 = to at *
      generalize o.send[k].2 = nt at *
      have heb7 : ownk eb = 7 := heb.1
      have Hsame := zh (fun (W : World) (hR : RM ownk w4 vk (x.mails ++ (RS.W.sends i o).take k) w4.drew W) => (show W.heap[eb]? = w4.heap[eb]? from RM.same HS4.out.wd.m hR helt (by rw [heb7]; decide)))
      have H14 := zh (show w4.cell? ⟨w.heap.size, 14, none⟩ = some (.slice (some ⟨eb, eo, none⟩) ov.sn ov.sc) from (HS4.out.b.c 14).trans (by rw [← e1]; rfl))
      have Hrange := zh hrange
      have Hlv := zh hlv
      have Hdv := zh hdv
      clear hrange hlv hdv hsv e1 heb
      have Ha5 := zh (fun (W : World) (hR : RM ownk w4 vk (x.mails ++ (RS.W.sends i o).take k) w4.drew W) => (show W.cell? ⟨a, 5, none⟩ = some (.slice vk.mp vk.mn vk.mc) from (World.cell?_of_block (a := ⟨a, 5, none⟩) (RM.same HS4.out.wd.m hR HS4.out.wd.lt (by rw [HS4.out.wd.oa]; decide))).trans (HS4.out.wd.cell 5)))
      have HbN := zh (fun (W : World) (hR : RM ownk w4 vk (x.mails ++ (RS.W.sends i o).take k) w4.drew W) => (show W.heap[w.heap.size]? = w4.heap[w.heap.size]? from RM.same HS4.out.wd.m hR HS4.out.b.lt (by rw [HS4.out.b.lab]; decide)))
      have Happ := zh (fun (W : World) (hR : RM ownk w4 vk (x.mails ++ (RS.W.sends i o).take k) w4.drew W) (N2 : Nat) (cs : List Value) (h1 : W.heap[N2]? = some (.cells cs.toArray 151)) (h2 : mailR.rel W (fun b => w4.heap.size ≤ b) (⟨i, to, nt⟩ : RS.Mail) cs) => mail_append HS4.out.wd.m (by rw [HMl.out]; omega) hR h1 h2)
      have Hb14 := zh (fun (W : World) (hR : RM ownk w4 vk (x.mails ++ (RS.W.sends i o).take k) w4.drew W) => (show W.cell? ⟨w.heap.size, 14, none⟩ = some (.slice (some ⟨eb, eo, none⟩) ov.sn ov.sc) from (World.cell?_of_block (a := ⟨w.heap.size, 14, none⟩) (HbN.out W hR)).trans H14.out))
      have Hto := zh (fun (W : World) (hR : RM ownk w4 vk (x.mails ++ (RS.W.sends i o).take k) w4.drew W) => (show W.cell? ⟨eb, eo + k * 10, none⟩ = some (.int .i64 (to : Int)) from (World.cell?_of_block (a := ⟨eb, eo + k * 10, none⟩) (Hsame.out W hR)).trans (Hrange.out 0 _ rfl)))
      have Hnote := zh (fun (W : World) (hR : RM ownk w4 vk (x.mails ++ (RS.W.sends i o).take k) w4.drew W) => (show W.rangeAt eb (eo + k * 10 + 1) [.int .u8 (nt.kind : Int), .int .u64 (nt.term : Int), .int .u64 (nt.round : Int), .int .u64 (nt.index : Int), .int .u64 (nt.at_ : Int), .int .u64 (nt.commit : Int), .bool nt.yes, .slice pl nt.list.length cl, .slice pd ([] : List UInt8).length cd] from
       fun j u hu => by rw [Nat.add_assoc, World.cell?_of_block (a := ⟨eb, eo + k * 10 + (1 + j), none⟩) (Hsame.out W hR)]; exact Hrange.out (1 + j) u (by rw [Nat.add_comm 1 j]; exact hu)))
      have Hcp := zh (fun (W : World) (hR : RM ownk w4 vk (x.mails ++ (RS.W.sends i o).take k) w4.drew W) => (ncopy_w nt.kind nt.term nt.round nt.index nt.at_ nt.commit nt.yes nt.list [] pl pd cl cd (fun b => ownk b = 7 ∧ b < w4.heap.size) W
       ⟨(footed_esr _ _).move Hlv.out fun b hb e => ⟨⟨e.1, hb⟩, RM.same HS4.out.wd.m hR hb (by rw [e.1]; decide)⟩, (footed_dat _ _).move Hdv.out fun b hb e => ⟨⟨e.1, hb⟩, RM.same HS4.out.wd.m hR hb (by rw [e.1]; decide)⟩, by have h1 := Hmfk.out.kind; show nt.kind < 256; omega, by have h1 := Hmfk.out.term; show nt.term < 2 ^ 64; omega, by have h1 := Hmfk.out.round; show nt.round < 2 ^ 64; omega, by have h1 := Hmfk.out.index; show nt.index < 2 ^ 64; omega, by have h1 := Hmfk.out.at_; show nt.at_ < 2 ^ 64; omega, by have h1 := Hmfk.out.commit; show nt.commit < 2 ^ 64; omega⟩
       (by have h1 := Hmfk.out.list.1; omega) (fun e he => by have h1 := (Hmfk.out.list.2.2 e he).2; omega) (by decide)).mono (R' := fun e w' => ∃ v, e = .returned v ∧ NtU nt w4.heap.size v w' ∧ RegT.Grow W w') (fun e w' ⟨cy, he, ⟨lv, dv, e2, hN⟩, hB⟩ => by
         obtain ⟨lp, lc, rfl⟩ := hN.l.len_form
         obtain ⟨dp, dc, rfl, _⟩ := hN.d.rd
         have hsz : w4.heap.size ≤ W.heap.size := hR.1.size
         exact ⟨_, he, ⟨_, _, _, _, _, _, by rw [e2]; rfl, hN.l.mono fun b _ hb => Nat.le_trans hsz hb, hN.d.mono fun b _ hb => Nat.le_trans hsz hb⟩, hB⟩))
      clear Hrange Hlv Hdv H14 heb7
      have hk0 : (0 : Int) ≤ (k : Int) := by omega
      have hki : (k : Int) < (ov.sn : Int) := by omega
      apply RegT.wp_region_T rfl 111 24 rfl (by kernel_rfl) (RM ownk w4 vk (x.mails ++ (RS.W.sends i o).take k)) (RegG.refl _ _ _ _) (RegG.trans _ _ _ _)
      ·
       iterate 4
        apply RegT.T_pure rfl rfl rfl
        · intro W hR; clear hR; go_simp; rfl
        simp only [List.set_cons_succ, List.set_cons_zero, Nat.reduceAdd]
       apply RegT.T_pure (v := .slice vk.mp vk.mn vk.mc) rfl rfl rfl
       · intro W hR
         have hc := Ha5.out W hR
         clear hR
         go_simp
       simp only [List.set_cons_succ, List.set_cons_zero, Nat.reduceAdd]
       iterate 2
        apply RegT.T_pure rfl rfl rfl
        · intro W hR; clear hR; go_simp; rfl
        simp only [List.set_cons_succ, List.set_cons_zero, Nat.reduceAdd]
       apply RegT.T_pure (v := .slice (some ⟨eb, eo, none⟩) ov.sn ov.sc) rfl rfl rfl
       · intro W hR
         have hc := Hb14.out W hR
         clear hR
         go_simp
       simp only [List.set_cons_succ, List.set_cons_zero, Nat.reduceAdd]
       iterate 3
        apply RegT.T_pure rfl rfl rfl
        · intro W hR; clear hR; go_simp; rfl
        simp only [List.set_cons_succ, List.set_cons_zero, Nat.reduceAdd]
       apply RegT.T_pure (v := .int .i64 (to : Int)) rfl rfl rfl
       · intro W hR
         have hc := Hto.out W hR
         clear hR
         go_simp
       simp only [List.set_cons_succ, List.set_cons_zero, Nat.reduceAdd]
       apply RegT.T_pure rfl rfl rfl
       · intro W hR; clear hR; go_simp; rfl
       simp only [List.set_cons_succ, List.set_cons_zero, Nat.reduceAdd]
       apply RegT.T_pure (v := .slice (some ⟨eb, eo, none⟩) ov.sn ov.sc) rfl rfl rfl
       · intro W hR
         have hc := Hb14.out W hR
         clear hR
         go_simp
       simp only [List.set_cons_succ, List.set_cons_zero, Nat.reduceAdd]
       iterate 3
        apply RegT.T_pure rfl rfl rfl
        · intro W hR; clear hR; go_simp; rfl
        simp only [List.set_cons_succ, List.set_cons_zero, Nat.reduceAdd]
       apply RegT.T_pure rfl rfl rfl
       · exact fun W hR => load_mid 31 (.tmp 45) rfl rfl (Hnote.out W hR) Try.underlying31 rfl (show _ = some 9 by kernel_rfl)
       simp only [List.set_cons_succ, List.set_cons_zero, Nat.reduceAdd]
       apply RegT.T_predC rfl rfl rfl 19 (NtU nt w4.heap.size) (RegG.grow _ _ _ _) (fun y x z hR h => h.keeps hR.block)
       · intro W hR hf0
         have Hc := zh (Hcp.out W hR)
         clear hR hf0
         go_simp
         exact RegT.OpOK_enter Hc.out (fun e w' h => h)
       intro v47
       simp only [List.set_cons_succ, List.set_cons_zero, Nat.reduceAdd]
       apply RegT.T_predC rfl rfl rfl 20 (MailU (⟨i, to, nt⟩ : RS.Mail) w4.heap.size) (RegG.grow _ _ _ _) (fun y x z hR h => h.keeps hR.block)
       · intro W hR hf0
         obtain ⟨lp, ln, lc, dp, dn, dc, rfl, h1, h2⟩ := (show NtU nt w4.heap.size v47 W from hf0 _ (.head _) (by kernel_rfl) (.inr rfl))
         have Hh := zh (And.intro h1 h2)
         clear hR hf0 h1 h2
         go_simp
         exact RegT.OpOK_value ⟨⟨_, _, _, _, _, _, rfl, Hh.out.1, Hh.out.2⟩, Below.refl _ _⟩
       intro v48
       simp only [List.set_cons_succ, List.set_cons_zero, Nat.reduceAdd]
       apply RegT.T_predC rfl rfl rfl 21 (RowM (⟨i, to, nt⟩ : RS.Mail) w4.heap.size) (RegG.grow _ _ _ _) (fun y x z hR h => h.keeps hR.block)
       · intro W hR hf0
         obtain ⟨lp, ln, lc, dp, dn, dc, rfl, h1, h2⟩ := (show MailU (⟨i, to, nt⟩ : RS.Mail) w4.heap.size v48 W from hf0 _ (.head _) (by kernel_rfl) (.inr rfl))
         have Hh := zh (And.intro h1 h2)
         clear hR hf0 h1 h2
         go_simp
         exact RegT.OpOK_value ⟨⟨_, _, rfl, heap_alloc_new W _, mailR.keeps (w := W) ⟨_, _, rfl, _, _, rfl, Hh.out.1, Hh.out.2⟩ ((Keeps.refl W).alloc _)⟩, (Below.refl _ _).alloc (Nat.le_refl _) _⟩
       intro v49
       simp only [List.set_cons_succ, List.set_cons_zero, Nat.reduceAdd]
       apply RegT.T_write rfl rfl rfl none (fun y W => RoG mailR W (fun b => ext ownk w4.heap.size 13 b = 13) 151 y ((x.mails ++ (RS.W.sends i o).take k) ++ [(⟨i, to, nt⟩ : RS.Mail)])) (fun y x z hR h => h.keeps hR.block)
       · intro W hR hf0
         obtain ⟨N2, cs, rfl, hN2, hrel⟩ := (show RowM (⟨i, to, nt⟩ : RS.Mail) w4.heap.size v49 W from hf0 _ (.head _) (by kernel_rfl) (.inr rfl))
         obtain ⟨v', w', hr, ho', hRR⟩ := Happ.out W hR N2 cs hN2 hrel
         exact append_ok (.tmp 33) (.tmp 49) rfl rfl rfl hr ⟨ho', hRR⟩
       intro v50
       simp only [List.set_cons_succ, List.set_cons_zero, Nat.reduceAdd]
       iterate 2
        apply RegT.T_pure rfl rfl rfl
        · intro W hR; clear hR; go_simp; rfl
        simp only [List.set_cons_succ, List.set_cons_zero, Nat.reduceAdd]
       refine RegT.T_tail (fun W hR hf0 => ?_)
       have hy : RoG mailR W (fun b => ext ownk w4.heap.size 13 b = 13) 151 v50 ((x.mails ++ (RS.W.sends i o).take k) ++ [(⟨i, to, nt⟩ : RS.Mail)]) := hf0 _ (.head _) (.inl rfl)
       obtain ⟨p8, c8, rfl⟩ := hy.form
       generalize hn8 : ((x.mails ++ (RS.W.sends i o).take k) ++ [(⟨i, to, nt⟩ : RS.Mail)]).length = n8 at *
       have hc5 := Ha5.out W hR
       have hf5 : W.frozen? ⟨a, 5, none⟩ = false := by have h1 := (RM.same HS4.out.wd.m hR HS4.out.wd.lt (by rw [HS4.out.wd.oa]; decide)).trans HS4.out.wd.row; simp [World.frozen?, h1]
       have HNX := zh (HS4.out.mails (RM.mv HS4.out.wd.m hR) hy)
       clear hR hf0 hy hn8
       simp only [List.drop_succ_cons, List.drop_zero]
       go_wp2
       go_roundw
       case rel => exact ⟨k + 1, _, _, by go_num, by omega, by omega, by rw [Hmail.out, ← List.append_assoc]; exact HNX⟩
       case measure => simp [intOf]; omega
      · rfl
      · kernel_rfl
    · have d3 : decide (vk.mn < 600) = false := by simpa using c2
      have d4 : decide ((vk.mn : Int) < 600) = false := by simp; omega
      go_upto_region 2 with (fail)
      go_quiet (fail)
      have HS4 := zh (HSk.out.drewN nq)
      clear HSk hb14 ha5 ha8
      generalize wr.drewN nq = w4 at *
      go_wp2
      go_meet
      rw [room_step x.mails (RS.W.sends i o) (.inr (by omega)) hk6 (by rw [Hsl]; exact hk)] at HS4
      exact zh ⟨_, _, HS4.out⟩
  · have d1 : decide (k < ov.sn) = false := by simpa using c1
    have d2 : decide ((k : Int) < (ov.sn : Int)) = false := by simp; omega
    go_upto_region 2 with (fail)
    go_quiet (fail)
    have HS4 := zh (HSk.out.drewN nq)
    have hkk : k = o.send.length := by have := Hsn.out; omega
    clear HSk hb14 ha5 ha8
    generalize wr.drewN nq = w4 at *
    go_wp2
    go_meet
    rw [room_step x.mails (RS.W.sends i o) (.inl (by rw [Hsl]; exact hkk)) hk6 (by rw [Hsl]; exact hk)] at HS4
    exact zh ⟨_, _, HS4.out⟩
 case rest =>
  obtain ⟨own2, v2, hc2⟩ := hcut.out
  have HS2 := zh hc2
  clear hcut hc2 HS1
  obtain ⟨rb, ro, rc, rcs, hrv, hrb, hrlt, hrr, hrel⟩ := HS2.out.wd.r.rd.elem i (by rw [List.length_map, List.length_range]; exact hi)
  have hrel2 : rcs = [.pointer (some ⟨p i, 0, none⟩)] := by have h1 : rcs = [.pointer (some ⟨((List.range x.n).map p)[i]'(by rw [List.length_map, List.length_range]; exact hi), 0, none⟩)] := hrel; rw [h1]; simp
  have e1 : v2.rp = some ⟨rb, ro, none⟩ := by injection hrv
  have e2 : v2.rn = x.n := by have h1 : v2.rn = ((List.range x.n).map p).length := (by injection hrv); rw [h1, List.length_map, List.length_range]
  have hrb11 : own2 rb = 11 := hrb
  have Hpi := zh (show wc.cell? ⟨rb, ro + i, none⟩ = some (.pointer (some ⟨p i, 0, none⟩)) from by have h1 := hrr 0 _ (by rw [hrel2]; rfl); rw [Nat.add_zero] at h1; have h2 : i * ptrR.k = i := Nat.mul_one i; rw [h2] at h1; exact h1)
  have Ha3 := zh (show wc.cell? ⟨a, 3, none⟩ = some (.slice (some ⟨rb, ro, none⟩) x.n v2.rc) from (HS2.out.wd.cell 3).trans (by rw [← e1, ← e2]; rfl))
  clear hrv hrb hrr hrel hrel2 e1 e2
  have hpi := Hpi.out
  have ha3 := Ha3.out
  have hi0 : (0 : Int) ≤ (i : Int) := by omega
  have hin : (i : Int) < (x.n : Int) := by omega
  have Htr := zh (track_w own2 i (p i) (g i) (x.r i) wc (HS2.out.wd.nd i hi) M Hb.out)
  go_upto_region 6 with (first
   | (go_at_call 66; refine (Htr.out).mono ?_; rintro e w3 ⟨N3, v3, rfl, hN3, htk3, hB3⟩; have HB3 := zh hB3; have Hbs := zh (base_w _ N3 (x.r i).base (x.r i).bt v3 (x.r i).es w3 htk3); clear hB3 htk3)
   | (go_at_call 42; refine (Hbs.out).mono ?_; rintro e w4 ⟨rfl, hB4⟩; have HB4 := zh hB4; clear hB4))
  have hB := HB3.out.trans (HB4.out.mono HB3.out.size)
  have HS5 := zh (show SnC own w (ext own2 wc.heap.size 9) w4 a p g { x with mails := RS.room x.mails (RS.W.sends i o) } v2 ov o w.heap.size from
   ⟨HS2.out.wd.mv (L := fun _ => False) (Mv.of_below hB 9) fun l e => e.elim, HS2.out.b.mv (L := fun _ => False) (Mv.of_below hB 9) id, HS2.out.ov.lab (L := fun _ => False) (Mv.of_below hB 9) id, HS2.out.m.trans (Mv.of_below hB 9), fun k hk => (World.cell?_of_block (a := ⟨a, k, none⟩) (hB.block a HS2.out.wd.lt)).trans (HS2.out.k k hk)⟩)
  clear HS2 hB HB3 HB4 Hbs Htr Hpi Ha3 hpi ha3
  have hrm : (RS.room x.mails (RS.W.sends i o)).length ≤ 600 := by unfold RS.room; rw [List.length_append, List.length_take]; omega
  obtain ⟨ms1, hms1⟩ : ∃ m, m = RS.room x.mails (RS.W.sends i o) := ⟨_, rfl⟩
  rw [← hms1] at HS5 hrm
  have Hms1 := zh hms1
  clear hms1
  generalize ext own2 wc.heap.size 9 = own5 at *
  obtain ⟨bs, hbs⟩ : ∃ n, n = (x.r i).base := ⟨_, rfl⟩
  obtain ⟨bt, hbt⟩ : ∃ n, n = (x.r i).bt := ⟨_, rfl⟩
  rw [← hbs, ← hbt]
  have Hbs := zh hbs
  have Hbt := zh hbt
  clear hbs hbt
  have HS5' := zh (show SnC own w own5 w4 a p g { x with mails := ms1 ++ (RS.W.needs i (x.r i) o).take 0 } v2 ov o w.heap.size from by rw [List.take_zero, List.append_nil]; exact HS5.out)
  clear HS5
  go_wp2
  go_loopw [9] (fun ix wr => ∃ (k : Nat) (own' : Own) (v' : Wv), ix = .int .i64 (k : Int) ∧ k ≤ o.need.length ∧ ms1.length + k ≤ 600 ∧ Hid (SnC own w own' wr a p g { x with mails := ms1 ++ (RS.W.needs i (x.r i) o).take k } v' ov o w.heap.size)) (fun ix _ => o.need.length - (intOf ix).toNat)
  case atStart => exact ⟨0, own5, v2, rfl, Nat.zero_le _, hrm, HS5'⟩
  case round =>
   obtain ⟨k, ownk, vk, rfl, hk, hk6, HSk⟩ := hrel
   clear HS5'
   have HMl := zh (show (ms1 ++ (RS.W.needs i (x.r i) o).take k).length = ms1.length + k by rw [List.length_append, List.length_take, Hnl]; omega)
   have hmn : vk.mn = ms1.length + k := by obtain ⟨_, _, e⟩ := HSk.out.wd.m.form; rw [← HMl.out]; injection e
   have hb15 : wr.cell? ⟨w.heap.size, 15, none⟩ = some (.slice ov.np ov.nn ov.nc) := HSk.out.b.c 15
   have ha5 : wr.cell? ⟨a, 5, none⟩ = some (.slice vk.mp vk.mn vk.mc) := HSk.out.wd.cell 5
   have ha8 : wr.cell? ⟨a, 8, none⟩ = some (.int .i64 600) := HSk.out.wd.cell 8
   by_cases c1 : k < ov.nn
   · have d1 : decide (k < ov.nn) = true := by simpa using c1
     have d2 : decide ((k : Int) < (ov.nn : Int)) = true := by simpa using c1
     by_cases c2 : vk.mn < 600
     · have d3 : decide (vk.mn < 600) = true := by simpa using c2
       have d4 : decide ((vk.mn : Int) < 600) = true := by simp; omega
       go_upto_region 7 with (fail)
       go_quiet (fail)
       have HS4 := zh (HSk.out.drewN nq)
       clear HSk hb15 ha5 ha8
       generalize wr.drewN nq = w4 at *
       go_upto_region 9 with (fail)
       clear d1 d2 d3 d4
       have hks : k < o.need.length := by have := Hnn.out; omega
       obtain ⟨eb, eo, ec, cs, hsv, heb, helt, hrange, rfl⟩ := HS4.out.ov.ne.rd.elem k hks
       have e1 : ov.np = some ⟨eb, eo, none⟩ := by injection hsv
       have Hmail := zh (show (RS.W.needs i (x.r i) o).take (k + 1) = (RS.W.needs i (x.r i) o).take k ++ [(⟨i, o.need[k], RS.shotN (x.r i)⟩ : RS.Mail)] from (take_one (by rw [Hnl]; exact hks)).trans (by simp [RS.W.needs]))
       generalize o.need[k] = to at *
       have heb7 : ownk eb = 7 := heb
       have Hsame := zh (fun (W : World) (hR : RM ownk w4 vk (ms1 ++ (RS.W.needs i (x.r i) o).take k) w4.drew W) => (show W.heap[eb]? = w4.heap[eb]? from RM.same HS4.out.wd.m hR helt (by rw [heb7]; decide)))
       have H15 := zh (show w4.cell? ⟨w.heap.size, 15, none⟩ = some (.slice (some ⟨eb, eo, none⟩) ov.nn ov.nc) from (HS4.out.b.c 15).trans (by rw [← e1]; rfl))
       have Hrange := zh hrange
       clear hrange hsv e1 heb
       have Ha5 := zh (fun (W : World) (hR : RM ownk w4 vk (ms1 ++ (RS.W.needs i (x.r i) o).take k) w4.drew W) => (show W.cell? ⟨a, 5, none⟩ = some (.slice vk.mp vk.mn vk.mc) from (World.cell?_of_block (a := ⟨a, 5, none⟩) (RM.same HS4.out.wd.m hR HS4.out.wd.lt (by rw [HS4.out.wd.oa]; decide))).trans (HS4.out.wd.cell 5)))
       have HbN := zh (fun (W : World) (hR : RM ownk w4 vk (ms1 ++ (RS.W.needs i (x.r i) o).take k) w4.drew W) => (show W.heap[w.heap.size]? = w4.heap[w.heap.size]? from RM.same HS4.out.wd.m hR HS4.out.b.lt (by rw [HS4.out.b.lab]; decide)))
       have Happ := zh (fun (W : World) (hR : RM ownk w4 vk (ms1 ++ (RS.W.needs i (x.r i) o).take k) w4.drew W) (N2 : Nat) (cs : List Value) (h1 : W.heap[N2]? = some (.cells cs.toArray 151)) (h2 : mailR.rel W (fun b => w4.heap.size ≤ b) (⟨i, to, RS.shotN (x.r i)⟩ : RS.Mail) cs) => mail_append HS4.out.wd.m (by rw [HMl.out]; omega) hR h1 h2)
       have Hb15 := zh (fun (W : World) (hR : RM ownk w4 vk (ms1 ++ (RS.W.needs i (x.r i) o).take k) w4.drew W) => (show W.cell? ⟨w.heap.size, 15, none⟩ = some (.slice (some ⟨eb, eo, none⟩) ov.nn ov.nc) from (World.cell?_of_block (a := ⟨w.heap.size, 15, none⟩) (HbN.out W hR)).trans H15.out))
       have Hto := zh (fun (W : World) (hR : RM ownk w4 vk (ms1 ++ (RS.W.needs i (x.r i) o).take k) w4.drew W) => (show W.cell? ⟨eb, eo + k, none⟩ = some (.int .i64 (to : Int)) from (World.cell?_of_block (a := ⟨eb, eo + k, none⟩) (Hsame.out W hR)).trans (by have h1 := Hrange.out 0 _ rfl; rw [Nat.add_zero] at h1; have h2 : k * intR.k = k := Nat.mul_one k; rw [h2] at h1; exact h1)))
       obtain ⟨rb2, ro2, rc2, rcs2, hrv, hrb, hrlt2, hrr, hrel⟩ := HS4.out.wd.r.rd.elem i (by rw [List.length_map, List.length_range]; exact hi)
       have hrel2 : rcs2 = [.pointer (some ⟨p i, 0, none⟩)] := by have h1 : rcs2 = [.pointer (some ⟨((List.range x.n).map p)[i]'(by rw [List.length_map, List.length_range]; exact hi), 0, none⟩)] := hrel; rw [h1]; simp
       have e1 : vk.rp = some ⟨rb2, ro2, none⟩ := by injection hrv
       have e2 : vk.rn = x.n := by have h1 : vk.rn = ((List.range x.n).map p).length := (by injection hrv); rw [h1, List.length_map, List.length_range]
       have e3 : vk.rc = rc2 := by injection hrv
       have hrb12 : ownk rb2 = 11 := hrb
       have Hpi := zh (fun (W : World) (hR : RM ownk w4 vk (ms1 ++ (RS.W.needs i (x.r i) o).take k) w4.drew W) => (show W.cell? ⟨rb2, ro2 + i, none⟩ = some (.pointer (some ⟨p i, 0, none⟩)) from (World.cell?_of_block (a := ⟨rb2, ro2 + i, none⟩) (RM.same HS4.out.wd.m hR hrlt2 (by rw [hrb12]; decide))).trans (by have h1 := hrr 0 _ (by rw [hrel2]; rfl); rw [Nat.add_zero] at h1; have h2 : i * ptrR.k = i := Nat.mul_one i; rw [h2] at h1; exact h1)))
       have Ha3 := zh (fun (W : World) (hR : RM ownk w4 vk (ms1 ++ (RS.W.needs i (x.r i) o).take k) w4.drew W) => (show W.cell? ⟨a, 3, none⟩ = some (.slice (some ⟨rb2, ro2, none⟩) x.n rc2) from (World.cell?_of_block (a := ⟨a, 3, none⟩) (RM.same HS4.out.wd.m hR HS4.out.wd.lt (by rw [HS4.out.wd.oa]; decide))).trans ((HS4.out.wd.cell 3).trans (by rw [← e1, ← e2, ← e3]; rfl))))
       have Htm := zh (fun (W : World) (hR : RM ownk w4 vk (ms1 ++ (RS.W.needs i (x.r i) o).take k) w4.drew W) => term_w (ext ownk w4.heap.size 13) i (p i) (g i) (x.r i) W ((HS4.out.wd.nd i hi).mv (RM.mv HS4.out.wd.m hR) (by omega)))
       clear Hrange H15 heb7 hrv hrb hrr hrel hrel2 e1 e2 e3
       have hk0 : (0 : Int) ≤ (k : Int) := by omega
       have hki : (k : Int) < (ov.nn : Int) := by omega
       apply RegT.wp_region_T rfl 111 27 rfl (by kernel_rfl) (RM ownk w4 vk (ms1 ++ (RS.W.needs i (x.r i) o).take k)) (RegG.refl _ _ _ _) (RegG.trans _ _ _ _)
       ·
        iterate 4
         apply RegT.T_pure rfl rfl rfl
         · intro W hR; clear hR; go_simp; rfl
         simp only [List.set_cons_succ, List.set_cons_zero, Nat.reduceAdd]
        apply RegT.T_pure (v := .slice vk.mp vk.mn vk.mc) rfl rfl rfl
        · intro W hR
          have hc := Ha5.out W hR
          clear hR
          go_simp
        simp only [List.set_cons_succ, List.set_cons_zero, Nat.reduceAdd]
        iterate 2
         apply RegT.T_pure rfl rfl rfl
         · intro W hR; clear hR; go_simp; rfl
         simp only [List.set_cons_succ, List.set_cons_zero, Nat.reduceAdd]
        apply RegT.T_pure (v := .slice (some ⟨eb, eo, none⟩) ov.nn ov.nc) rfl rfl rfl
        · intro W hR
          have hc := Hb15.out W hR
          clear hR
          go_simp
        simp only [List.set_cons_succ, List.set_cons_zero, Nat.reduceAdd]
        iterate 2
         apply RegT.T_pure rfl rfl rfl
         · intro W hR; clear hR; go_simp; rfl
         simp only [List.set_cons_succ, List.set_cons_zero, Nat.reduceAdd]
        apply RegT.T_pure (v := .int .i64 (to : Int)) rfl rfl rfl
        · intro W hR
          have hc := Hto.out W hR
          clear hR
          go_simp
        simp only [List.set_cons_succ, List.set_cons_zero, Nat.reduceAdd]
        iterate 3
         apply RegT.T_pure rfl rfl rfl
         · intro W hR; clear hR; go_simp; rfl
         simp only [List.set_cons_succ, List.set_cons_zero, Nat.reduceAdd]
        apply RegT.T_pure (v := .slice (some ⟨rb2, ro2, none⟩) x.n rc2) rfl rfl rfl
        · intro W hR
          have hc := Ha3.out W hR
          clear hR
          go_simp
        simp only [List.set_cons_succ, List.set_cons_zero, Nat.reduceAdd]
        iterate 2
         apply RegT.T_pure rfl rfl rfl
         · intro W hR; clear hR; go_simp; rfl
         simp only [List.set_cons_succ, List.set_cons_zero, Nat.reduceAdd]
        apply RegT.T_pure (v := .pointer (some ⟨p i, 0, none⟩)) rfl rfl rfl
        · intro W hR
          have hc := Hpi.out W hR
          clear hR
          go_simp
        simp only [List.set_cons_succ, List.set_cons_zero, Nat.reduceAdd]
        apply RegT.T_const rfl rfl rfl (.int .u64 ((x.r i).term : Int)) (RegG.grow _ _ _ _)
        · intro W hR hf
          have Hc := zh (Htm.out W hR)
          clear hR hf
          go_simp
          exact RegT.OpOK_enter Hc.out (fun e w' h => ⟨_, h.1, rfl, by rw [← h.2]; exact Below.refl _ _⟩)
        simp only [List.set_cons_succ, List.set_cons_zero, Nat.reduceAdd]
        iterate 4
         apply RegT.T_pure rfl rfl rfl
         · intro W hR; clear hR; go_simp; rfl
         simp only [List.set_cons_succ, List.set_cons_zero, Nat.reduceAdd]
        apply RegT.T_predC rfl rfl rfl 24 (RowM (⟨i, to, RS.shotN (x.r i)⟩ : RS.Mail) w4.heap.size) (RegG.grow _ _ _ _) (fun y x z hR h => h.keeps hR.block)
        · intro W hR hf0
          clear hR hf0
          go_simp
          refine RegT.OpOK_value ⟨⟨_, _, rfl, heap_alloc_new W _, ⟨[.int .u8 7, .int .u64 ((x.r i).term : Int), .int .u64 0, .int .u64 (bs : Int), .int .u64 (bt : Int), .int .u64 0, .bool false, .slice none 0 0, .slice none 0 0], 0, rfl, .slice none 0 0, .slice none 0 0, by rw [Hbs.out, Hbt.out]; rfl, EsR.nil _ _, datA_nil _ _ _ _ nilPtB⟩⟩, (Below.refl _ _).alloc (Nat.le_refl _) _⟩
        intro v107
        simp only [List.set_cons_succ, List.set_cons_zero, Nat.reduceAdd]
        apply RegT.T_write rfl rfl rfl none (fun y W => RoG mailR W (fun b => ext ownk w4.heap.size 13 b = 13) 151 y ((ms1 ++ (RS.W.needs i (x.r i) o).take k) ++ [(⟨i, to, RS.shotN (x.r i)⟩ : RS.Mail)])) (fun y x z hR h => h.keeps hR.block)
        · intro W hR hf0
          obtain ⟨N2, cs, rfl, hN2, hrel⟩ := (show RowM (⟨i, to, RS.shotN (x.r i)⟩ : RS.Mail) w4.heap.size v107 W from hf0 _ (.head _) (by kernel_rfl) (.inr rfl))
          obtain ⟨v', w', hr, ho', hRR⟩ := Happ.out W hR N2 cs hN2 hrel
          exact append_ok (.tmp 88) (.tmp 107) rfl rfl rfl hr ⟨ho', hRR⟩
        intro v108
        simp only [List.set_cons_succ, List.set_cons_zero, Nat.reduceAdd]
        iterate 2
         apply RegT.T_pure rfl rfl rfl
         · intro W hR; clear hR; go_simp; rfl
         simp only [List.set_cons_succ, List.set_cons_zero, Nat.reduceAdd]
        refine RegT.T_tail (fun W hR hf0 => ?_)
        have hy : RoG mailR W (fun b => ext ownk w4.heap.size 13 b = 13) 151 v108 ((ms1 ++ (RS.W.needs i (x.r i) o).take k) ++ [(⟨i, to, RS.shotN (x.r i)⟩ : RS.Mail)]) := hf0 _ (.head _) (.inl rfl)
        obtain ⟨p8, c8, rfl⟩ := hy.form
        generalize hn8 : ((ms1 ++ (RS.W.needs i (x.r i) o).take k) ++ [(⟨i, to, RS.shotN (x.r i)⟩ : RS.Mail)]).length = n8 at *
        have hc5 := Ha5.out W hR
        have hf5 : W.frozen? ⟨a, 5, none⟩ = false := by have h1 := (RM.same HS4.out.wd.m hR HS4.out.wd.lt (by rw [HS4.out.wd.oa]; decide)).trans HS4.out.wd.row; simp [World.frozen?, h1]
        have HNX := zh (HS4.out.mails (RM.mv HS4.out.wd.m hR) hy)
        clear hR hf0 hy hn8
        simp only [List.drop_succ_cons, List.drop_zero]
        go_wp2
        go_roundw
        case rel => exact ⟨k + 1, _, _, by go_num, by omega, by omega, by rw [Hmail.out, ← List.append_assoc]; exact HNX⟩
        case measure => simp [intOf]; omega
       · rfl
       · kernel_rfl
     · have d3 : decide (vk.mn < 600) = false := by simpa using c2
       have d4 : decide ((vk.mn : Int) < 600) = false := by simp; omega
       go_upto_region 7 with (fail)
       go_quiet (fail)
       have HS4 := zh (HSk.out.drewN nq)
       clear HSk hb15 ha5 ha8
       generalize wr.drewN nq = w4 at *
       go_wp2
       go_end0
       rw [room_step ms1 (RS.W.needs i (x.r i) o) (.inr (by omega)) hk6 (by rw [Hnl]; exact hk)] at HS4
       exact ⟨⟨_, rfl⟩, _, _, (by unfold RS.W.sent; rw [← Hms1.out]; exact HS4.out.wd), HS4.out.m, HS4.out.k⟩
   · have d1 : decide (k < ov.nn) = false := by simpa using c1
     have d2 : decide ((k : Int) < (ov.nn : Int)) = false := by simp; omega
     go_upto_region 7 with (fail)
     go_quiet (fail)
     have HS4 := zh (HSk.out.drewN nq)
     have hkk : k = o.need.length := by have := Hnn.out; omega
     clear HSk hb15 ha5 ha8
     generalize wr.drewN nq = w4 at *
     go_wp2
     go_end0
     rw [room_step ms1 (RS.W.needs i (x.r i) o) (.inl (by rw [Hnl]; exact hkk)) hk6 (by rw [Hnl]; exact hk)] at HS4
     exact ⟨⟨_, rfl⟩, _, _, (by unfold RS.W.sent; rw [← Hms1.out]; exact HS4.out.wd), HS4.out.m, HS4.out.k⟩
end
end Go.Proofs.Yteellfgiejnigaa
