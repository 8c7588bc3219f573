/- A step sends to a node what it should have next: the walk. -/
import Derived.Test.YteellfgiejnigaaQnG8
namespace Go.Proofs.Yteellfgiejnigaa
open Go.ChangeShapes Go.WideShapes Go.ChangeAt Go.RowKit
set_option linter.unusedVariables false
section
variable {own own' : Own} {w w' : World} {i p q g t0 : Nat} {who0 : Int} {r : RS.Rf} {x : Ov} {o : RS.Ou} {M : Nat}
/-- What is told of the entries that were added. -/
def Adds (x x' : Ov) : Prop := x'.ap = x.ap ∧ x'.an = x.an ∧ x'.ac = x.ac
theorem Adds.refl (x : Ov) : Adds x x := ⟨rfl, rfl, rfl⟩
theorem Adds.trans {x y z : Ov} (h : Adds x y) (k : Adds y z) : Adds x z := ⟨k.1.trans h.1, k.2.1.trans h.2.1, k.2.2.trans h.2.2⟩
/-- Behind a part of a step. -/
def Stp (own : Own) (w : World) (L : Nat → Prop) (i p q g t0 : Nat) (who0 : Int) (r : RS.Rf) (x : Ov) (o : RS.Ou) (w' : World) : Prop :=
  ∃ own' x', StAt own' w' i p q g t0 who0 r x' o ∧ Adds x x' ∧ Mv L own w own' w'
theorem row_frozen {w : World} {g : Nat} (j : Nat) {cs : Array Value} {t : TypeId} (h : w.heap[g]? = some (.cells cs t)) : w.frozen? ⟨g, j, none⟩ = false := by simp [World.frozen?, h]
set_option maxRecDepth 100000 in
set_option maxHeartbeats 1000000 in
theorem update_need_w (own : Own) (i p q g t0 : Nat) (who0 : Int) (r : RS.Rf) (x : Ov) (o : RS.Ou) (w : World) (h : StAt own w i p q g t0 who0 r x o) (M : Nat) (hb : Nb M r) (f : Nat) (hf : f < 7) (hnx : r.next f ≤ r.base) (hs : o.need.length ≤ 1000) :
    Calls Try.prog 130 #[.pointer (some ⟨q, 0, none⟩), .int .i64 (f : Int)] w fun e w' => (∃ v, e = .returned v) ∧ Stp own w (fun l => l = 7) i p q g t0 who0 r x (r.update o f) w' := by
  obtain ⟨v, htk⟩ := h.nd.tk
  have Hbase := Lib.hid (base_w _ g r.base r.bt v r.es w htk)
  have H := Lib.hid h
  have hq0 := h.q0
  have hp5 := h.nd.ctk
  have hne := h.ne
  have Hup := Lib.hid (show r.update o f = { o with need := o.need ++ [f] } from if_pos hnx)
  have hf0 : (0 : Int) ≤ (f : Int) := by omega
  have hf7 : (f : Int) < 7 := by omega
  have e1 : decide ((r.next f : Int) ≤ (r.base : Int)) = true := by simp; omega
  have e2 : decide (r.next f ≤ r.base) = true := by simp; omega
  clear h htk hb hnx
  go_enter Try.func130, Try.ntmps130
  go_upto_region 1 with (go_at_call 42; refine (Hbase.out).mono ?_; rintro e w1 ⟨rfl, hB⟩; have H1 := Lib.hid (H.out.below hB); have HM1 := Lib.hid (Mv.of_below (L := fun l => l = 7) (own := own) hB 9); clear hB hq0 hp5; have hq0 := H1.out.q0; have hnx := H1.out.nd.cnext hf; have hq16 := H1.out.q16; have hfz := H1.out.frozen 16)
  generalize ext own w.heap.size 9 = own1 at *
  have hA := H1.out.mv (L := fun _ => False) (Mv.alloc own1 w1 (.cells #[.int .i64 (f : Int)] 3) 9) id id
  have HMA := Lib.hid (HM1.out.trans ((Mv.alloc own1 w1 (.cells #[.int .i64 (f : Int)] 3) 9).weak (L' := fun l => l = 7)))
  have HN := Lib.hid (heap_alloc_new w1 (.cells #[.int .i64 (f : Int)] 3))
  generalize ext own1 w1.heap.size 9 = ownA at *
  have HA := Lib.hid hA
  have HR := Lib.hid (hA.ov.ne.mono (S' := fun b => Ft ownA 7 q b ∧ b < (w1.alloc (.cells #[.int .i64 (f : Int)] 3)).heap.size) fun b hb e => ⟨e, hb⟩)
  have hnn : x.nn = o.need.length := by obtain ⟨_, _, e⟩ := hA.ov.ne.form; injection e
  have HS := Lib.hid (fun b (h : Ft ownA 7 q b ∧ b < (w1.alloc (.cells #[.int .i64 (f : Int)] 3)).heap.size) => (⟨(ext_lt h.2).trans h.1.1, h.1.2⟩ : Ft (ext ownA (w1.alloc (.cells #[.int .i64 (f : Int)] 3)).heap.size 7) 7 q b))
  have HSn := Lib.hid (show Ft (ext ownA (w1.alloc (.cells #[.int .i64 (f : Int)] 3)).heap.size 7) 7 q (w1.alloc (.cells #[.int .i64 (f : Int)] 3)).heap.size from ⟨ext_ge (Nat.le_refl _), fun e => by have := hA.lt; omega⟩)
  have HC := Lib.hid (fun (j : Nat) (u : Value) (hu : [Value.int .i64 (f : Int)][j]? = some u) => row_cells (cs := [.int .i64 (f : Int)]) HN.out j u hu)
  have HFt := Lib.hid (fun b (e : (Value.slice x.np x.nn x.nc).ownBlock = some b) => (hA.ov.ne.foot b e).1)
  have Hnn := Lib.hid hnn
  have HL1 := Lib.hid (show o.need.length + [f].length ≤ maxLen by unfold maxLen; simp; omega)
  have HL2 := Lib.hid (show (o.need.length + [f].length) * 8 ≤ 140737488355328 by simp; omega)
  clear hA hnn
  go_wp2_with (at_builtin; go_loud (refine wpList_append_rog (R := intR) rfl (.tmp 38) (.tmp 40) 98 rfl (S' := Ft (ext ownA (w1.alloc (.cells #[.int .i64 (f : Int)] 3)).heap.size 7) 7 q) helI rfl HR.out rfl (fs := [f]) (RoC.cons rfl .nil) (.inr ⟨_, rfl, HC.out⟩) HL1.out HL2.out HS.out HSn.out ?_; intro pn n c w3 ho hg hnew hn; have HP := Lib.hid (HA.out.needPush ho hg hnew); have hrow := (HA.out.grown hg HFt.out).2.1; have hq16' : w3.cell? ⟨q, 16, none⟩ = some (.slice x.np x.nn x.nc) := cell_of_row _ _ 16 _ _ _ hrow; have hfz' := row_frozen 16 hrow; clear ho hg hnew hrow hn))
  refine bodyPost_ret (results_none rfl _ _ _) rfl ?_
  refine ⟨⟨_, rfl⟩, _, { x with np := pn, nn := n, nc := c }, ?_, ⟨rfl, rfl, rfl⟩, HMA.out.trans HP.out.2⟩
  rw [Hup.out]; exact HP.out.1
/-- A note that was built: its entries are new. -/
def NoteU (k rd ix at' cm : Int) (B0 : Nat) (l : List Ent) (y : Value) (W : World) : Prop := ∃ p c, y = .agg #[.int .u8 k, .int .u64 0, .int .u64 rd, .int .u64 ix, .int .u64 at', .int .u64 cm, .bool false, .slice p l.length c, .slice none 0 0] ∧ EsG W (fun b => B0 ≤ b) 53 (.slice p l.length c) l
theorem NoteU.keeps {k rd ix at' cm : Int} {B0 : Nat} {l : List Ent} {y : Value} {W W' : World} (h : NoteU k rd ix at' cm B0 l y W) (hk : Keeps W W') : NoteU k rd ix at' cm B0 l y W' := by
  obtain ⟨p, c, e, hu⟩ := h; exact ⟨p, c, e, hu.keeps hk⟩
theorem nilPtB {w : World} : PtB w none 0 [] := ⟨fun _ => rfl, Nat.le_refl _, by decide, fun h => absurd rfl h⟩
set_option maxRecDepth 100000 in
set_option maxHeartbeats 1000000 in
theorem update_send_w (own : Own) (i p q g t0 : Nat) (who0 : Int) (r : RS.Rf) (x : Ov) (o : RS.Ou) (w : World) (h : StAt own w i p q g t0 who0 r x o) (M : Nat) (hb : Nb M r) (f : Nat) (hf : f < 7) (hnx : ¬ r.next f ≤ r.base) (hs : o.send.length ≤ 100000) :
    Calls Try.prog 130 #[.pointer (some ⟨q, 0, none⟩), .int .i64 (f : Int)] w fun e w' => (∃ v, e = .returned v) ∧ Stp own w (fun l => l = 7) i p q g t0 who0 r x (r.update o f) w' := by
  obtain ⟨v, htk⟩ := h.nd.tk
  have Hbase := Lib.hid (base_w _ g r.base r.bt v r.es w htk)
  have H := Lib.hid h
  have hq0 := h.q0
  have hp5 := h.nd.ctk
  have hne := h.ne
  have Hup := Lib.hid (show r.update o f = r.put o f (r.addN f) from if_neg hnx)
  have hf0 : (0 : Int) ≤ (f : Int) := by omega
  have hf7 : (f : Int) < 7 := by omega
  have e1 : decide ((r.next f : Int) ≤ (r.base : Int)) = false := by simp; omega
  have e2 : decide (r.next f ≤ r.base) = false := by simp; omega
  have hnM := hb.next f
  have hMM := hb.hM
  obtain ⟨k, hk⟩ : ∃ k, k = r.next f - 1 := ⟨_, rfl⟩
  have e3 : IntKind.u64.wrap ((r.next f : Int) - 1) = (k : Int) := by rw [IntWalk.u64_in _ (by omega)]; omega
  have Hk := Lib.hid hk
  have Hkb := Lib.hid (show k < 2 ^ 64 by omega)
  have Hnb := Lib.hid (show r.next f < 2 ^ 64 by omega)
  have Hlen := Lib.hid (show r.es.length ≤ 1000000 by have := hb.len; omega)
  have Hel := Lib.hid (fun e he => (show e.2.length ≤ 1000000 by have := (hb.es e he).2; omega) : ∀ e ∈ r.es, e.2.length ≤ 1000000)
  have Hlist := Lib.hid (sliceR_rs r.base r.es (r.next f))
  clear h htk hb hnx hnM hMM hk
  go_enter Try.func130, Try.ntmps130
  go_upto_region 1 with (go_at_call 42; refine (Hbase.out).mono ?_; rintro e w1 ⟨rfl, hB⟩; have H1 := Lib.hid (H.out.below hB); have HM1 := Lib.hid (Mv.of_below (L := fun l => l = 7) (own := own) hB 9); clear hB hq0 hp5; have hq0 := H1.out.q0; have hnx := H1.out.nd.cnext hf; have hp5 := H1.out.nd.ctk; have Htm := Lib.hid (H1.out.nd.tk.elim fun v htk => termat_w _ g r.base r.bt v r.es k w1 htk Hlen.out Hkb.out))
  generalize ext own w.heap.size 9 = own1 at *
  generalize hta : termAt r.base r.bt r.es k = ta at *
  have Hta := Lib.hid hta
  clear hta
  obtain ⟨ta1, ta2⟩ := ta
  go_upto_region 5 with (go_at_call 28; refine (Htm.out).mono ?_; rintro e w3 ⟨rfl, hB⟩; have H3 := Lib.hid (H1.out.below hB); have HM3 := Lib.hid (HM1.out.trans (Mv.of_below (L := fun l => l = 7) (own := own1) hB 9)); clear hB hq0 hp5 hnx; have hq0 := H3.out.q0; have hp5 := H3.out.nd.ctk; have hp6 := H3.out.nd.ccommit; have Hsl := Lib.hid (H3.out.nd.tk.elim fun v htk => fun (W : World) (hR : RegT.Grow w3.drew W) => slice_w _ g r.base r.bt (r.next f) 16 v r.es W ((htk.keeps (Keeps.refl w3).drew).keeps hR.block) Hlen.out Hel.out Hnb.out (by decide)))
  generalize ext own1 w1.heap.size 9 = own3 at *
  apply RegT.wp_region_T rfl 81 22 rfl (by kernel_rfl) RegT.Grow RegT.Grow.refl RegT.Grow.trans
  · apply RegT.T_pure rfl rfl rfl
    · intro W hR; clear hR; go_simp; rfl
    simp only [List.set_cons_succ, List.set_cons_zero, Nat.reduceAdd]
    apply RegT.T_pure rfl rfl rfl
    · intro W hR; clear hR; go_simp; rfl
    simp only [List.set_cons_succ, List.set_cons_zero, Nat.reduceAdd]
    apply RegT.T_pure rfl rfl rfl
    · intro W hR; clear hR; go_simp; rfl
    simp only [List.set_cons_succ, List.set_cons_zero, Nat.reduceAdd]
    apply RegT.T_pure (v := .int .u64 (k : Int)) rfl rfl rfl
    · intro W hR
      clear hR
      go_simp
    simp only [List.set_cons_succ, List.set_cons_zero, Nat.reduceAdd]
    apply RegT.T_pure rfl rfl rfl
    · intro W hR; clear hR; go_simp; rfl
    simp only [List.set_cons_succ, List.set_cons_zero, Nat.reduceAdd]
    apply RegT.T_pure rfl rfl rfl
    · intro W hR; clear hR; go_simp; rfl
    simp only [List.set_cons_succ, List.set_cons_zero, Nat.reduceAdd]
    apply RegT.T_pure rfl rfl rfl
    · intro W hR; clear hR; go_simp; rfl
    simp only [List.set_cons_succ, List.set_cons_zero, Nat.reduceAdd]
    apply RegT.T_pure rfl rfl rfl
    · intro W hR; clear hR; go_simp; rfl
    simp only [List.set_cons_succ, List.set_cons_zero, Nat.reduceAdd]
    apply RegT.T_pure rfl rfl rfl
    · intro W hR
      have hc := Keeps.cell hR.block hq0
      clear hR
      go_simp; rfl
    simp only [List.set_cons_succ, List.set_cons_zero, Nat.reduceAdd]
    apply RegT.T_pure rfl rfl rfl
    · intro W hR; clear hR; go_simp; rfl
    simp only [List.set_cons_succ, List.set_cons_zero, Nat.reduceAdd]
    apply RegT.T_pure rfl rfl rfl
    · intro W hR; clear hR; go_simp; rfl
    simp only [List.set_cons_succ, List.set_cons_zero, Nat.reduceAdd]
    apply RegT.T_pure rfl rfl rfl
    · intro W hR
      have hc := Keeps.cell hR.block hp6
      clear hR
      go_simp; rfl
    simp only [List.set_cons_succ, List.set_cons_zero, Nat.reduceAdd]
    apply RegT.T_pure rfl rfl rfl
    · intro W hR; clear hR; go_simp; rfl
    simp only [List.set_cons_succ, List.set_cons_zero, Nat.reduceAdd]
    apply RegT.T_pure rfl rfl rfl
    · intro W hR; clear hR; go_simp; rfl
    simp only [List.set_cons_succ, List.set_cons_zero, Nat.reduceAdd]
    apply RegT.T_pure rfl rfl rfl
    · intro W hR; clear hR; go_simp; rfl
    simp only [List.set_cons_succ, List.set_cons_zero, Nat.reduceAdd]
    apply RegT.T_pure rfl rfl rfl
    · intro W hR
      have hc := Keeps.cell hR.block hq0
      clear hR
      go_simp; rfl
    simp only [List.set_cons_succ, List.set_cons_zero, Nat.reduceAdd]
    apply RegT.T_pure rfl rfl rfl
    · intro W hR; clear hR; go_simp; rfl
    simp only [List.set_cons_succ, List.set_cons_zero, Nat.reduceAdd]
    apply RegT.T_pure rfl rfl rfl
    · intro W hR; clear hR; go_simp; rfl
    simp only [List.set_cons_succ, List.set_cons_zero, Nat.reduceAdd]
    apply RegT.T_pure rfl rfl rfl
    · intro W hR
      have hc := Keeps.cell hR.block hp5
      clear hR
      go_simp; rfl
    simp only [List.set_cons_succ, List.set_cons_zero, Nat.reduceAdd]
    apply RegT.T_pure rfl rfl rfl
    · intro W hR; clear hR; go_simp; rfl
    simp only [List.set_cons_succ, List.set_cons_zero, Nat.reduceAdd]
    apply RegT.T_pred rfl rfl rfl (fun u W => EsG W (fun b => w3.heap.size ≤ b) 53 u (sliceR r.base r.es (r.next f) 16)) (fun _ _ h => h) (fun y x z hR h => h.keeps hR.block)
    · intro W hR hf0
      have Hc := Lib.hid (Hsl.out W hR)
      have hsz := Lib.hid hR.size
      clear hR hf0
      go_simp
      exact RegT.OpOK_enter Hc.out (fun e w' ⟨u, he, hu, hB⟩ => ⟨_, he, hu.mono fun b _ hb => Nat.le_trans hsz.out hb, hB⟩)
    intro u8
    simp only [List.set_cons_succ, List.set_cons_zero, Nat.reduceAdd]
    apply RegT.T_pred rfl rfl rfl (NoteU 5 0 (k : Int) (ta1 : Int) (r.commit : Int) w3.heap.size (sliceR r.base r.es (r.next f) 16)) (fun _ _ h => h) (fun y x z hR h => h.keeps hR.block)
    · intro W hR hf0
      have hu : EsG W (fun b => w3.heap.size ≤ b) 53 u8 (sliceR r.base r.es (r.next f) 16) := hf0 _ (.head _) (by kernel_rfl) (.inl rfl)
      obtain ⟨p8, c8, rfl⟩ := hu.form
      have Hu := Lib.hid hu
      clear hR hf0 hu
      go_simp
      exact RegT.OpOK_value ⟨⟨_, _, rfl, Hu.out⟩, Below.refl _ _⟩
    intro u9
    simp only [List.set_cons_succ, List.set_cons_zero, Nat.reduceAdd]
    refine RegT.T_tail (fun W hR hf0 => ?_)
    obtain ⟨p8, c8, rfl, hu⟩ := (show NoteU 5 0 (k : Int) (ta1 : Int) (r.commit : Int) w3.heap.size (sliceR r.base r.es (r.next f) 16) u9 W from hf0 _ (.head _) (.inl rfl))
    generalize hl8 : (sliceR r.base r.es (r.next f) 16).length = n8 at *
    have hm3 : Mv (fun l => l = 7) own3 w3 (ext own3 w3.drew.heap.size 7) W := (Mv.drew _ own3 w3).trans (Mv.of_below hR 7)
    have h3 : StAt (ext own3 w3.drew.heap.size 7) W i p q g t0 who0 r x o := (H3.out.drew).mv (L := fun _ => False) (Mv.of_below hR 7) id id
    have hofs := H3.out.ov
    have hlq := H3.out.lt
    have hl : EsR W (OffS (OffS (Ft (ext own3 w3.drew.heap.size 7) 7 q) (.slice x.np x.nn x.nc)) (.slice x.sp x.sn x.sc)) (.slice p8 n8 c8) (r.addN f).list := by
      show EsR W _ _ (RS.sliceR r.base r.es (r.next f) 16)
      rw [← Hlist.out]
      refine hu.rd.mono fun b _ hb => ⟨⟨⟨ext_ge hb, fun e => ?_⟩, fun e => ?_⟩, fun e => ?_⟩
      · have hb : w3.heap.size ≤ b := hb; omega
      · have hb : w3.heap.size ≤ b := hb; have := (hofs.ne.foot b e).2; omega
      · have hb : w3.heap.size ≤ b := hb; have := (hofs.se.foot b e).2; omega
    have Hsend := Lib.hid (send_w (ext own3 w3.drew.heap.size 7) i p q g t0 who0 r x o W h3 f (r.addN f) 5 0 0 (k : Int) (ta1 : Int) (r.commit : Int) false p8 n8 c8 none 0 0 rfl rfl (by rw [Hk.out]; rfl) (by show _ = ((RS.termAt r.base r.bt r.es (r.next f - 1)).1 : Int); rw [← Hk.out, termAt_rs, Hta.out]) rfl rfl hl (datA_nil _ _ _ _ nilPtB) hs)
    have HM4 := Lib.hid (HM3.out.trans hm3)
    clear hR hf0 hu hm3 h3 hl hl8 hofs
    simp only [List.drop_succ_cons, List.drop_zero]
    go_wp2_with (go_at_call 120; refine (Hsend.out).mono ?_; rintro e w5 ⟨⟨v, rfl⟩, own5, x5, h5, a1, a2, a3, hm5⟩; have H5 := Lib.hid h5; have HM5 := Lib.hid hm5; have HA5 := Lib.hid (And.intro a1 (And.intro a2 a3)); clear h5 hm5 a1 a2 a3)
    go_end0
    refine ⟨⟨_, rfl⟩, own5, x5, ?_, HA5.out, HM4.out.trans HM5.out⟩
    rw [Hup.out]; exact H5.out
  · rfl
  · kernel_rfl
end
end Go.Proofs.Yteellfgiejnigaa
