/- RaftSafe: G16. -/
import Derived.Test.YteellfgiejnigaaQtA00
import Derived.Test.YteellfgiejnigaaQtA21
namespace Go.Proofs.Yteellfgiejnigaa
open Go.ChangeShapes Go.WideShapes Go.ChangeAt Go.RowKit
set_option linter.unusedVariables false
section
variable {own own' : Own} {w w' : World} {i p q g t0 N : Nat} {who0 : Int} {r : RS.Rf} {x : Ov} {o : RS.Ou} {M : Nat}
theorem Mv.row9 {W : World} {cs ds : Array Value} {t : TypeId} (hb : Bx own W N cs t) : Mv (fun l => l = 9) own W own (W.setRow N ds) :=
 ⟨⟨rfl, rfl, rfl, by rw [setRow_size]; exact Nat.le_refl _, fun b hb' hn => setRow_other _ _ _ _ (fun e => hn (by subst e; exact hb.lab))⟩, fun _ _ => rfl⟩
theorem Told.fin {L : Nat → Prop} {own' : Own} {g' : Nat} {cs : Array Value} {t : TypeId} (hn : NdAt own' w' i p g' r) (ho : OvAt w' (fun b => own' b = 7) x o) (hm : Mv L own w own' w') (hb : Bx own' w' N cs t) (hN : w.heap.size ≤ N) :
 Told own w L i p r o (.returned (.agg (Ov.cells x))) (w'.setRow N (Ov.cells x)) :=
 ⟨x, own', g', rfl, hn.mv (Mv.row9 hb) (by have := hn.hi; omega), (footed_ov _ _).frame ho fun b e => setRow_other _ _ _ _ fun e2 => by rw [e2, hb.lab] at e; omega, hm.newRow hN _⟩
theorem ov_one (x : Ov) : (Ov.cells x).all (·.oneCell') = true := by simp [Ov.cells, Value.oneCell']
set_option maxRecDepth 100000 in
set_option maxHeartbeats 2000000 in
theorem tick_a2_w (own : Own) (i p g : Nat) (r : RS.Rf) (w : World) (h : NdAt own w i p g r) (M : Nat) (hb : Nb M r) (hM : M ≤ 90000) (d : Nat) (hd : d < 2 ^ 64) (hr : r.role = 3) (hbe : ¬ r.beat - 1 ≤ 0) :
 Calls Try.prog 58 #[.pointer (some ⟨p, 0, none⟩), .int .u64 (d : Int)] w (Told own w (fun l => l = i ∨ l = 7) i p { r with beat := r.beat - 1 } RS.Ou.none) := by
 have hi7 := h.hi
 have hbt := hb.T2
 have hbl := hb.left
 have hbq := hb.quiet
 have hbb := hb.beat
 have hbl1 := hbl.1
 have hbl2 := hbl.2
 have hbq1 := hbq.1
 have hbq2 := hbq.2
 have hbb1 := hbb.1
 have hbb2 := hbb.2
 have Hb := zh hb
 have e1 : ((r.role : Int) == 3) = true := by simp; omega
 have e2 : (r.role == 3) = true := by simp; omega
 have e3 : decide (r.beat - 1 ≤ 0) = false := by simp; omega
 have e4 : decide (r.beat ≤ 1) = false := by simp; omega
 clear hr hbe
 obtain ⟨w1, hw1⟩ : ∃ w1, w.alloc (.cells #[.bool false, .bool false, .int .u8 0, .int .u64 0, .int .u64 0, .int .u64 0, .int .u64 0, .int .u64 0, .bool false, .slice none 0 0, .slice none 0 0, .bool false, .int .u64 0, .slice none 0 0, .slice none 0 0, .slice none 0 0] 100) = w1 := ⟨_, rfl⟩
 have H1 := zh (h.mv (L := fun _ => False) (Mv.alloc own w (.cells #[.bool false, .bool false, .int .u8 0, .int .u64 0, .int .u64 0, .int .u64 0, .int .u64 0, .int .u64 0, .bool false, .slice none 0 0, .slice none 0 0, .bool false, .int .u64 0, .slice none 0 0, .slice none 0 0, .slice none 0 0] 100) 9) id)
 have HX1 := zh (Bx.new own w #[.bool false, .bool false, .int .u8 0, .int .u64 0, .int .u64 0, .int .u64 0, .int .u64 0, .int .u64 0, .bool false, .slice none 0 0, .slice none 0 0, .bool false, .int .u64 0, .slice none 0 0, .slice none 0 0, .slice none 0 0] 100)
 have HM1 := zh ((Mv.refl (fun l => l = i ∨ l = 7) own w).alloc7 (.cells #[.bool false, .bool false, .int .u8 0, .int .u64 0, .int .u64 0, .int .u64 0, .int .u64 0, .int .u64 0, .bool false, .slice none 0 0, .slice none 0 0, .bool false, .int .u64 0, .slice none 0 0, .slice none 0 0, .slice none 0 0] 100))
 rw [hw1] at H1 HX1 HM1
 have HW := zh hw1
 clear h hw1 hb hbl hbq hbb
 generalize ext own w.heap.size 9 = own1 at *
 generalize hq : w1.heap.size = q at *
 have Hbeg := zh (begin_w own1 i p g r w1 H1.out)
 rw [hq] at Hbeg
 have HN := zh (none_w own1 i p g r w1 H1.out)
 clear hq
 go_enter Try.func58, Try.ntmps58
 go_upto_region 1 with (fail)
 rw [HW.out]
 go_upto_region 4 with (first
  | (go_at_call 106; refine (HN.out).mono ?_; rintro e w2 ⟨rfl, rfl⟩)
  | (go_at_call 107; refine (Hbeg.out).mono ?_; rintro e w2 ⟨rfl, own2, h2, hm2⟩; have H2 := zh h2; have HX2 := zh (HX1.out.mv hm2 id); have HM2 := zh (HM1.out.trans (hm2.mono fun l e => e.elim)); clear h2 hm2))
 clear H1 HX1 HM1 HW HN Hbeg
 have hrl := H2.out.nd.crole
 have hbt11 := H2.out.nd.cbeat
 have hf11 := H2.out.nd.frozen 11
 have H3 := zh (H2.out.setp 11 (.int .i64 (r.beat - 1)) { r with beat := r.beat - 1 } rfl rfl rfl rfl)
 have hm3 := Mv.set (L := fun l => l = i) (own := own2) (w := w2) (a := ⟨p, 11, none⟩) H2.out.nd.op (.int .i64 (r.beat - 1))
 have HX3 := zh (HX2.out.mv hm3 (by omega))
 have HM3 := zh (HM2.out.trans (hm3.mono fun l e => .inl e))
 clear hm3
 go_upto_region 6 with (fail)
 clear hrl hbt11 hf11
 generalize w2.setCell ⟨p, 11, none⟩ (.int .i64 (r.beat - 1)) = w3 at *
 have hb3 : w3.cell? ⟨p, 11, none⟩ = some (.int .i64 (r.beat - 1)) := H3.out.nd.cbeat
 have HDn := zh (nddone_w _ i p q g r.term r.who _ _ _ _ H3.out)
 go_wp2_with (first
  | (refine wpList_store_rowTo rfl 100 (.tmp 4) (.tmp 33) rfl rfl _ (Ov.cells x9) rfl rfl 100 _ HZ.out (show _ = some 16 by kernel_rfl) rfl (ov_one x9) ?_)
  | (go_at_call 111; refine (HDn.out).mono ?_; rintro e w9 ⟨x9, own9, g9, rfl, hn9, ho9, hm9⟩; have HN9 := zh hn9; have HO9 := zh ho9; have HM9 := zh (HM3.out.trans (hm9.mono fun l e => .inr e)); have HX9 := zh (HX3.out.mv hm9 (by decide)); have HZ := zh HX9.out.row; clear hn9 ho9 hm9))
 exact bodyPost_ret (results_cell_row rfl _ _ w.heap.size 100 _ _ _ rfl (setRow_heap _ _ _ _ _ _ HZ.out) Try.underlying100 rfl (show _ = some 16 by kernel_rfl)) rfl (Told.fin HN9.out HO9.out HM9.out HX9.out (Nat.le_refl _))
set_option maxRecDepth 100000 in
set_option maxHeartbeats 2000000 in
theorem tick_a1_w (own : Own) (i p g : Nat) (r : RS.Rf) (w : World) (h : NdAt own w i p g r) (M : Nat) (hb : Nb M r) (hM : M ≤ 90000) (d : Nat) (hd : d < 2 ^ 64) (hr : r.role = 3) (hb0 : 0 ≤ r.beat) (hbe : r.beat - 1 ≤ 0) :
 Calls Try.prog 58 #[.pointer (some ⟨p, 0, none⟩), .int .u64 (d : Int)] w (Told own w (fun l => l = i ∨ l = 7) i p ({ r with beat := r.beat - 1 } : RS.Rf).pulse (({ r with beat := r.beat - 1 } : RS.Rf).pulse.updates RS.Ou.none)) := by
 have hi7 := h.hi
 have hbt := hb.T2
 have hbl := hb.left
 have hbq := hb.quiet
 have hbb := hb.beat
 have hbl1 := hbl.1
 have hbl2 := hbl.2
 have hbq1 := hbq.1
 have hbq2 := hbq.2
 have hbb1 := hbb.1
 have hbb2 := hbb.2
 have Hb := zh hb
 have e1 : ((r.role : Int) == 3) = true := by simp; omega
 have e2 : (r.role == 3) = true := by simp; omega
 have e3 : decide (r.beat - 1 ≤ 0) = true := by simp; omega
 have e4 : decide (r.beat ≤ 1) = true := by simp; omega
 have Hbe := zh (show 0 ≤ r.beat from hb0)
 clear hr hbe
 obtain ⟨w1, hw1⟩ : ∃ w1, w.alloc (.cells #[.bool false, .bool false, .int .u8 0, .int .u64 0, .int .u64 0, .int .u64 0, .int .u64 0, .int .u64 0, .bool false, .slice none 0 0, .slice none 0 0, .bool false, .int .u64 0, .slice none 0 0, .slice none 0 0, .slice none 0 0] 100) = w1 := ⟨_, rfl⟩
 have H1 := zh (h.mv (L := fun _ => False) (Mv.alloc own w (.cells #[.bool false, .bool false, .int .u8 0, .int .u64 0, .int .u64 0, .int .u64 0, .int .u64 0, .int .u64 0, .bool false, .slice none 0 0, .slice none 0 0, .bool false, .int .u64 0, .slice none 0 0, .slice none 0 0, .slice none 0 0] 100) 9) id)
 have HX1 := zh (Bx.new own w #[.bool false, .bool false, .int .u8 0, .int .u64 0, .int .u64 0, .int .u64 0, .int .u64 0, .int .u64 0, .bool false, .slice none 0 0, .slice none 0 0, .bool false, .int .u64 0, .slice none 0 0, .slice none 0 0, .slice none 0 0] 100)
 have HM1 := zh ((Mv.refl (fun l => l = i ∨ l = 7) own w).alloc7 (.cells #[.bool false, .bool false, .int .u8 0, .int .u64 0, .int .u64 0, .int .u64 0, .int .u64 0, .int .u64 0, .bool false, .slice none 0 0, .slice none 0 0, .bool false, .int .u64 0, .slice none 0 0, .slice none 0 0, .slice none 0 0] 100))
 rw [hw1] at H1 HX1 HM1
 have HW := zh hw1
 clear h hw1 hb hbl hbq hbb
 generalize ext own w.heap.size 9 = own1 at *
 generalize hq : w1.heap.size = q at *
 have Hbeg := zh (begin_w own1 i p g r w1 H1.out)
 rw [hq] at Hbeg
 have HN := zh (none_w own1 i p g r w1 H1.out)
 clear hq
 go_enter Try.func58, Try.ntmps58
 go_upto_region 1 with (fail)
 rw [HW.out]
 go_upto_region 4 with (first
  | (go_at_call 106; refine (HN.out).mono ?_; rintro e w2 ⟨rfl, rfl⟩)
  | (go_at_call 107; refine (Hbeg.out).mono ?_; rintro e w2 ⟨rfl, own2, h2, hm2⟩; have H2 := zh h2; have HX2 := zh (HX1.out.mv hm2 id); have HM2 := zh (HM1.out.trans (hm2.mono fun l e => e.elim)); clear h2 hm2))
 clear H1 HX1 HM1 HW HN Hbeg
 have hrl := H2.out.nd.crole
 have hbt11 := H2.out.nd.cbeat
 have hf11 := H2.out.nd.frozen 11
 have H3 := zh (H2.out.setp 11 (.int .i64 (r.beat - 1)) { r with beat := r.beat - 1 } rfl rfl rfl rfl)
 have hm3 := Mv.set (L := fun l => l = i) (own := own2) (w := w2) (a := ⟨p, 11, none⟩) H2.out.nd.op (.int .i64 (r.beat - 1))
 have HX3 := zh (HX2.out.mv hm3 (by omega))
 have HM3 := zh (HM2.out.trans (hm3.mono fun l e => .inl e))
 clear hm3
 go_upto_region 6 with (fail)
 clear hrl hbt11 hf11
 generalize w2.setCell ⟨p, 11, none⟩ (.int .i64 (r.beat - 1)) = w3 at *
 have hb3 : w3.cell? ⟨p, 11, none⟩ = some (.int .i64 (r.beat - 1)) := H3.out.nd.cbeat
 have Hpu := zh (pulse_w own2 i p q g r.term r.who _ _ _ w3 H3.out (by show r.T ≤ 20; omega))
 have Hnb := zh (show Nb M ({ r with beat := r.beat - 1 } : RS.Rf).pulse from Nb.pulse ⟨Hb.out.hM, Hb.out.n7, Hb.out.id, Hb.out.T1, Hb.out.T2, Hb.out.term, Hb.out.base, Hb.out.bt, Hb.out.len, Hb.out.es, Hb.out.commit, Hb.out.role, Hb.out.leader, Hb.out.left, Hb.out.quiet, by show -1 ≤ r.beat - 1 ∧ r.beat - 1 ≤ 50; have h0 := Hbe.out; omega, Hb.out.who, Hb.out.round, Hb.out.next, Hb.out.mt⟩)
 go_upto_region 8 with (go_at_call 112; refine (Hpu.out).mono ?_; rintro e w4 ⟨⟨v, rfl⟩, h4, hm4⟩; have H4 := zh h4; have HX4 := zh (HX3.out.mv hm4 (by omega)); have HM4 := zh (HM3.out.trans (hm4.mono fun l e => .inl e)); clear h4 hm4)
 have Hup := zh (updates_w own2 i p q g r.term r.who _ _ _ w4 H4.out M Hnb.out (by decide) (by decide))
 go_upto_region 9 with (go_at_call 110; refine (Hup.out).mono ?_; rintro e w5 ⟨⟨v, rfl⟩, own5, x5, h5, hA5, hm5⟩; have H5 := zh h5; have HX5 := zh (HX4.out.mv hm5 (by decide)); have HM5 := zh (HM4.out.trans (hm5.mono fun l e => .inr e)); clear h5 hA5 hm5)
 clear H2 HX2 HM2 H3 HX3 HM3 H4 HX4 HM4 Hpu Hup hb3
 have HDn := zh (nddone_w _ i p q g r.term r.who _ _ _ _ H5.out)
 go_wp2_with (first
  | (refine wpList_store_rowTo rfl 100 (.tmp 4) (.tmp 33) rfl rfl _ (Ov.cells x9) rfl rfl 100 _ HZ.out (show _ = some 16 by kernel_rfl) rfl (ov_one x9) ?_)
  | (go_at_call 111; refine (HDn.out).mono ?_; rintro e w9 ⟨x9, own9, g9, rfl, hn9, ho9, hm9⟩; have HN9 := zh hn9; have HO9 := zh ho9; have HM9 := zh (HM5.out.trans (hm9.mono fun l e => .inr e)); have HX9 := zh (HX5.out.mv hm9 (by decide)); have HZ := zh HX9.out.row; clear hn9 ho9 hm9))
 exact bodyPost_ret (results_cell_row rfl _ _ w.heap.size 100 _ _ _ rfl (setRow_heap _ _ _ _ _ _ HZ.out) Try.underlying100 rfl (show _ = some 16 by kernel_rfl)) rfl (Told.fin HN9.out HO9.out HM9.out HX9.out (Nat.le_refl _))
set_option maxRecDepth 100000 in
set_option maxHeartbeats 2000000 in
theorem tick_b1_w (own : Own) (i p g : Nat) (r : RS.Rf) (w : World) (h : NdAt own w i p g r) (M : Nat) (hb : Nb M r) (hM : M ≤ 90000) (d : Nat) (hd : d < 2 ^ 64) (hr : r.role ≠ 3) (hbe : 0 < r.left - 1) :
 Calls Try.prog 58 #[.pointer (some ⟨p, 0, none⟩), .int .u64 (d : Int)] w (Told own w (fun l => l = i ∨ l = 7) i p ({ r with quiet := min (r.quiet + 1) (r.T : Int), left := r.left - 1 } : RS.Rf) RS.Ou.none) := by
 have hi7 := h.hi
 have hbt := hb.T2
 have hbl := hb.left
 have hbq := hb.quiet
 have hbb := hb.beat
 have hbl1 := hbl.1
 have hbl2 := hbl.2
 have hbq1 := hbq.1
 have hbq2 := hbq.2
 have hbb1 := hbb.1
 have hbb2 := hbb.2
 have Hb := zh hb
 have e1 : ((r.role : Int) == 3) = false := by simp; omega
 have e2 : (r.role == 3) = false := by simp; omega
 have e5 : IntKind.i64.wrap (r.quiet + 1) = r.quiet + 1 := IntWalk.i64_in _ (by omega)
 have e6 : decide (0 < r.left - 1) = true := by simp; omega
 have e7 : decide (1 < r.left) = true := by simp; omega
 clear hr hbe
 obtain ⟨w1, hw1⟩ : ∃ w1, w.alloc (.cells #[.bool false, .bool false, .int .u8 0, .int .u64 0, .int .u64 0, .int .u64 0, .int .u64 0, .int .u64 0, .bool false, .slice none 0 0, .slice none 0 0, .bool false, .int .u64 0, .slice none 0 0, .slice none 0 0, .slice none 0 0] 100) = w1 := ⟨_, rfl⟩
 have H1 := zh (h.mv (L := fun _ => False) (Mv.alloc own w (.cells #[.bool false, .bool false, .int .u8 0, .int .u64 0, .int .u64 0, .int .u64 0, .int .u64 0, .int .u64 0, .bool false, .slice none 0 0, .slice none 0 0, .bool false, .int .u64 0, .slice none 0 0, .slice none 0 0, .slice none 0 0] 100) 9) id)
 have HX1 := zh (Bx.new own w #[.bool false, .bool false, .int .u8 0, .int .u64 0, .int .u64 0, .int .u64 0, .int .u64 0, .int .u64 0, .bool false, .slice none 0 0, .slice none 0 0, .bool false, .int .u64 0, .slice none 0 0, .slice none 0 0, .slice none 0 0] 100)
 have HM1 := zh ((Mv.refl (fun l => l = i ∨ l = 7) own w).alloc7 (.cells #[.bool false, .bool false, .int .u8 0, .int .u64 0, .int .u64 0, .int .u64 0, .int .u64 0, .int .u64 0, .bool false, .slice none 0 0, .slice none 0 0, .bool false, .int .u64 0, .slice none 0 0, .slice none 0 0, .slice none 0 0] 100))
 rw [hw1] at H1 HX1 HM1
 have HW := zh hw1
 clear h hw1 hb hbl hbq hbb
 generalize ext own w.heap.size 9 = own1 at *
 generalize hq : w1.heap.size = q at *
 have Hbeg := zh (begin_w own1 i p g r w1 H1.out)
 rw [hq] at Hbeg
 have HN := zh (none_w own1 i p g r w1 H1.out)
 clear hq
 go_enter Try.func58, Try.ntmps58
 go_upto_region 1 with (fail)
 rw [HW.out]
 go_upto_region 4 with (first
  | (go_at_call 106; refine (HN.out).mono ?_; rintro e w2 ⟨rfl, rfl⟩)
  | (go_at_call 107; refine (Hbeg.out).mono ?_; rintro e w2 ⟨rfl, own2, h2, hm2⟩; have H2 := zh h2; have HX2 := zh (HX1.out.mv hm2 id); have HM2 := zh (HM1.out.trans (hm2.mono fun l e => e.elim)); clear h2 hm2))
 clear H1 HX1 HM1 HW HN Hbeg
 have hrl := H2.out.nd.crole
 have hp2 := H2.out.nd.cT
 have hp10 := H2.out.nd.cquiet
 have hf10 := H2.out.nd.frozen 10
 go_upto_region 10 with (fail)
 go_still_tail 14, (by kernel_rfl)
 change wpList _ _ _ _ _ w2.drew
 have HD := zh H2.out.drew
 have hp10' : w2.drew.cell? ⟨p, 10, none⟩ = some (.int .i64 r.quiet) := hp10
 have hf10' : w2.drew.frozen? ⟨p, 10, none⟩ = false := hf10
 have HXD := zh (HX2.out.mv (Mv.drew (fun _ => False) own2 w2) id)
 have HMD := zh (HM2.out.trans (Mv.drew (fun l => l = i ∨ l = 7) own2 w2))
 clear hrl hp2 hp10 hf10 H2 HX2 HM2
 generalize w2.drew = wd at *
 go_upto_region 11 with (fail)
 generalize hmq : (if (r.T : Int) < r.quiet + 1 then (r.T : Int) else r.quiet + 1) = mq
 have Hmq : Hid (mq = min (r.quiet + 1) (r.T : Int)) := zh (by rw [← hmq]; split <;> omega)
 clear hmq hp10' hf10'
 have H3 := zh (HD.out.setp 10 (.int .i64 mq) { r with quiet := mq } rfl rfl rfl rfl)
 have hm3 := Mv.set (L := fun l => l = i) (own := own2) (w := wd) (a := ⟨p, 10, none⟩) HD.out.nd.op (.int .i64 mq)
 have HX3 := zh (HXD.out.mv hm3 (by omega))
 have HM3 := zh (HMD.out.trans (hm3.mono fun l e => .inl e))
 clear hm3 HD HXD HMD
 generalize wd.setCell ⟨p, 10, none⟩ (.int .i64 mq) = w3 at *
 have hp9 : w3.cell? ⟨p, 9, none⟩ = some (.int .i64 r.left) := H3.out.nd.cleft
 have hf9 := H3.out.nd.frozen 9
 have h4 := H3.out.setp 9 (.int .i64 (r.left - 1)) { r with quiet := mq, left := r.left - 1 } rfl rfl rfl rfl
 rw [Hmq.out] at h4
 have H4 := zh h4
 have hm4 := Mv.set (L := fun l => l = i) (own := own2) (w := w3) (a := ⟨p, 9, none⟩) H3.out.nd.op (.int .i64 (r.left - 1))
 have HX4 := zh (HX3.out.mv hm4 (by omega))
 have HM4 := zh (HM3.out.trans (hm4.mono fun l e => .inl e))
 go_upto_region 12 with (fail)
 clear hp9 hf9 h4 hm4 H3 HX3 HM3
 generalize w3.setCell ⟨p, 9, none⟩ (.int .i64 (r.left - 1)) = w4 at *
 have hp9 : w4.cell? ⟨p, 9, none⟩ = some (.int .i64 (r.left - 1)) := H4.out.nd.cleft
 have HDn := zh (nddone_w _ i p q g r.term r.who _ _ _ _ H4.out)
 go_wp2_with (first
  | (refine wpList_store_rowTo rfl 100 (.tmp 4) (.tmp 61) rfl rfl _ (Ov.cells x9) rfl rfl 100 _ HZ.out (show _ = some 16 by kernel_rfl) rfl (ov_one x9) ?_)
  | (go_at_call 111; refine (HDn.out).mono ?_; rintro e w9 ⟨x9, own9, g9, rfl, hn9, ho9, hm9⟩; have HN9 := zh hn9; have HO9 := zh ho9; have HM9 := zh (HM4.out.trans (hm9.mono fun l e => .inr e)); have HX9 := zh (HX4.out.mv hm9 (by decide)); have HZ := zh HX9.out.row; clear hn9 ho9 hm9))
 exact bodyPost_ret (results_cell_row rfl _ _ w.heap.size 100 _ _ _ rfl (setRow_heap _ _ _ _ _ _ HZ.out) Try.underlying100 rfl (show _ = some 16 by kernel_rfl)) rfl (Told.fin HN9.out HO9.out HM9.out HX9.out (Nat.le_refl _))
set_option maxRecDepth 100000 in
set_option maxHeartbeats 2000000 in
theorem tick_b4c_w (own : Own) (i p g : Nat) (r : RS.Rf) (w : World) (h : NdAt own w i p g r) (M : Nat) (hb : Nb M r) (hM : M ≤ 90000) (d : Nat) (hd : d < 2 ^ 64) (hr : r.role = 2) (hbe : ¬ 0 < r.left - 1) :
 Calls Try.prog 58 #[.pointer (some ⟨p, 0, none⟩), .int .u64 (d : Int)] w (Told own w (fun l => l = i ∨ l = 7) i p (({ r with quiet := min (r.quiet + 1) (r.T : Int), left := r.left - 1 } : RS.Rf).follow d) RS.Ou.none) := by
 have hi7 := h.hi
 have hbt := hb.T2
 have hbl := hb.left
 have hbq := hb.quiet
 have hbb := hb.beat
 have hbl1 := hbl.1
 have hbl2 := hbl.2
 have hbq1 := hbq.1
 have hbq2 := hbq.2
 have hbb1 := hbb.1
 have hbb2 := hbb.2
 have Hb := zh hb
 have e1 : ((r.role : Int) == 3) = false := by simp; omega
 have e2 : (r.role == 3) = false := by simp; omega
 have e5 : IntKind.i64.wrap (r.quiet + 1) = r.quiet + 1 := IntWalk.i64_in _ (by omega)
 have e6 : decide (0 < r.left - 1) = false := by simp; omega
 have e7 : decide (1 < r.left) = false := by simp; omega
 have qza : ((r.role : Int) == 0) = false := by simp; omega
 have qzb : (r.role == 0) = false := by simp; omega
 have qya : ((r.role : Int) == 1) = false := by simp; omega
 have qyb : (r.role == 1) = false := by simp; omega
 clear hr hbe
 obtain ⟨w1, hw1⟩ : ∃ w1, w.alloc (.cells #[.bool false, .bool false, .int .u8 0, .int .u64 0, .int .u64 0, .int .u64 0, .int .u64 0, .int .u64 0, .bool false, .slice none 0 0, .slice none 0 0, .bool false, .int .u64 0, .slice none 0 0, .slice none 0 0, .slice none 0 0] 100) = w1 := ⟨_, rfl⟩
 have H1 := zh (h.mv (L := fun _ => False) (Mv.alloc own w (.cells #[.bool false, .bool false, .int .u8 0, .int .u64 0, .int .u64 0, .int .u64 0, .int .u64 0, .int .u64 0, .bool false, .slice none 0 0, .slice none 0 0, .bool false, .int .u64 0, .slice none 0 0, .slice none 0 0, .slice none 0 0] 100) 9) id)
 have HX1 := zh (Bx.new own w #[.bool false, .bool false, .int .u8 0, .int .u64 0, .int .u64 0, .int .u64 0, .int .u64 0, .int .u64 0, .bool false, .slice none 0 0, .slice none 0 0, .bool false, .int .u64 0, .slice none 0 0, .slice none 0 0, .slice none 0 0] 100)
 have HM1 := zh ((Mv.refl (fun l => l = i ∨ l = 7) own w).alloc7 (.cells #[.bool false, .bool false, .int .u8 0, .int .u64 0, .int .u64 0, .int .u64 0, .int .u64 0, .int .u64 0, .bool false, .slice none 0 0, .slice none 0 0, .bool false, .int .u64 0, .slice none 0 0, .slice none 0 0, .slice none 0 0] 100))
 rw [hw1] at H1 HX1 HM1
 have HW := zh hw1
 clear h hw1 hb hbl hbq hbb
 generalize ext own w.heap.size 9 = own1 at *
 generalize hq : w1.heap.size = q at *
 have Hbeg := zh (begin_w own1 i p g r w1 H1.out)
 rw [hq] at Hbeg
 have HN := zh (none_w own1 i p g r w1 H1.out)
 clear hq
 go_enter Try.func58, Try.ntmps58
 go_upto_region 1 with (fail)
 rw [HW.out]
 go_upto_region 4 with (first
  | (go_at_call 106; refine (HN.out).mono ?_; rintro e w2 ⟨rfl, rfl⟩)
  | (go_at_call 107; refine (Hbeg.out).mono ?_; rintro e w2 ⟨rfl, own2, h2, hm2⟩; have H2 := zh h2; have HX2 := zh (HX1.out.mv hm2 id); have HM2 := zh (HM1.out.trans (hm2.mono fun l e => e.elim)); clear h2 hm2))
 clear H1 HX1 HM1 HW HN Hbeg
 have hrl := H2.out.nd.crole
 have hp2 := H2.out.nd.cT
 have hp10 := H2.out.nd.cquiet
 have hf10 := H2.out.nd.frozen 10
 go_upto_region 10 with (fail)
 go_still_tail 14, (by kernel_rfl)
 change wpList _ _ _ _ _ w2.drew
 have HD := zh H2.out.drew
 have hp10' : w2.drew.cell? ⟨p, 10, none⟩ = some (.int .i64 r.quiet) := hp10
 have hf10' : w2.drew.frozen? ⟨p, 10, none⟩ = false := hf10
 have HXD := zh (HX2.out.mv (Mv.drew (fun _ => False) own2 w2) id)
 have HMD := zh (HM2.out.trans (Mv.drew (fun l => l = i ∨ l = 7) own2 w2))
 clear hrl hp2 hp10 hf10 H2 HX2 HM2
 generalize w2.drew = wd at *
 go_upto_region 11 with (fail)
 generalize hmq : (if (r.T : Int) < r.quiet + 1 then (r.T : Int) else r.quiet + 1) = mq
 have Hmq : Hid (mq = min (r.quiet + 1) (r.T : Int)) := zh (by rw [← hmq]; split <;> omega)
 clear hmq hp10' hf10'
 have H3 := zh (HD.out.setp 10 (.int .i64 mq) { r with quiet := mq } rfl rfl rfl rfl)
 have hm3 := Mv.set (L := fun l => l = i) (own := own2) (w := wd) (a := ⟨p, 10, none⟩) HD.out.nd.op (.int .i64 mq)
 have HX3 := zh (HXD.out.mv hm3 (by omega))
 have HM3 := zh (HMD.out.trans (hm3.mono fun l e => .inl e))
 clear hm3 HD HXD HMD
 generalize wd.setCell ⟨p, 10, none⟩ (.int .i64 mq) = w3 at *
 have hp9 : w3.cell? ⟨p, 9, none⟩ = some (.int .i64 r.left) := H3.out.nd.cleft
 have hf9 := H3.out.nd.frozen 9
 have h4 := H3.out.setp 9 (.int .i64 (r.left - 1)) { r with quiet := mq, left := r.left - 1 } rfl rfl rfl rfl
 rw [Hmq.out] at h4
 have H4 := zh h4
 have hm4 := Mv.set (L := fun l => l = i) (own := own2) (w := w3) (a := ⟨p, 9, none⟩) H3.out.nd.op (.int .i64 (r.left - 1))
 have HX4 := zh (HX3.out.mv hm4 (by omega))
 have HM4 := zh (HM3.out.trans (hm4.mono fun l e => .inl e))
 go_upto_region 12 with (fail)
 clear hp9 hf9 h4 hm4 H3 HX3 HM3
 generalize w3.setCell ⟨p, 9, none⟩ (.int .i64 (r.left - 1)) = w4 at *
 have hp9 : w4.cell? ⟨p, 9, none⟩ = some (.int .i64 (r.left - 1)) := H4.out.nd.cleft
 have hrl := H4.out.nd.crole
 have Hmost := zh (most_w own2 i p g _ w4 H4.out.nd Hb.out.n7)
 go_upto_region 14 with (fail)
 have H5 := H4
 have HX5 := HX4
 have HM5 := HM4
 obtain ⟨w5, hw5⟩ : ∃ w5, w5 = w4 := ⟨_, rfl⟩
 subst hw5
 have Hfo := zh (follow_w own2 i p q g r.term r.who _ _ _ w5 H5.out (by show r.T ≤ 20; omega) d hd)
 go_upto_region 27 with (go_at_call 117; refine (Hfo.out).mono ?_; rintro e w6 ⟨⟨v, rfl⟩, h6, hm6⟩; have H6 := zh h6; have HX6 := zh (HX5.out.mv hm6 (by omega)); have HM6 := zh (HM5.out.trans (hm6.mono fun l e => .inl e)); clear h6 hm6)
 have HDn := zh (nddone_w _ i p q g r.term r.who _ _ _ _ H6.out)
 go_wp2_with (first
  | (refine wpList_store_rowTo rfl 100 (.tmp 4) (.tmp 149) rfl rfl _ (Ov.cells x9) rfl rfl 100 _ HZ.out (show _ = some 16 by kernel_rfl) rfl (ov_one x9) ?_)
  | (go_at_call 111; refine (HDn.out).mono ?_; rintro e w9 ⟨x9, own9, g9, rfl, hn9, ho9, hm9⟩; have HN9 := zh hn9; have HO9 := zh ho9; have HM9 := zh (HM6.out.trans (hm9.mono fun l e => .inr e)); have HX9 := zh (HX6.out.mv hm9 (by decide)); have HZ := zh HX9.out.row; clear hn9 ho9 hm9))
 exact bodyPost_ret (results_cell_row rfl _ _ w.heap.size 100 _ _ _ rfl (setRow_heap _ _ _ _ _ _ HZ.out) Try.underlying100 rfl (show _ = some 16 by kernel_rfl)) rfl (Told.fin HN9.out HO9.out HM9.out HX9.out (Nat.le_refl _))
set_option maxRecDepth 100000 in
set_option maxHeartbeats 2000000 in
theorem tick_b4d_w (own : Own) (i p g : Nat) (r : RS.Rf) (w : World) (h : NdAt own w i p g r) (M : Nat) (hb : Nb M r) (hM : M ≤ 90000) (d : Nat) (hd : d < 2 ^ 64) (hr : r.role = 1) (hbe : ¬ 0 < r.left - 1) (hmo : r.most = false) :
 Calls Try.prog 58 #[.pointer (some ⟨p, 0, none⟩), .int .u64 (d : Int)] w (Told own w (fun l => l = i ∨ l = 7) i p (({ r with quiet := min (r.quiet + 1) (r.T : Int), left := r.left - 1 } : RS.Rf).follow d) RS.Ou.none) := by
 have hi7 := h.hi
 have hbt := hb.T2
 have hbl := hb.left
 have hbq := hb.quiet
 have hbb := hb.beat
 have hbl1 := hbl.1
 have hbl2 := hbl.2
 have hbq1 := hbq.1
 have hbq2 := hbq.2
 have hbb1 := hbb.1
 have hbb2 := hbb.2
 have Hb := zh hb
 have e1 : ((r.role : Int) == 3) = false := by simp; omega
 have e2 : (r.role == 3) = false := by simp; omega
 have e5 : IntKind.i64.wrap (r.quiet + 1) = r.quiet + 1 := IntWalk.i64_in _ (by omega)
 have e6 : decide (0 < r.left - 1) = false := by simp; omega
 have e7 : decide (1 < r.left) = false := by simp; omega
 have qza : ((r.role : Int) == 0) = false := by simp; omega
 have qzb : (r.role == 0) = false := by simp; omega
 have qya : ((r.role : Int) == 1) = true := by simp; omega
 have qyb : (r.role == 1) = true := by simp; omega
 clear hr hbe
 obtain ⟨w1, hw1⟩ : ∃ w1, w.alloc (.cells #[.bool false, .bool false, .int .u8 0, .int .u64 0, .int .u64 0, .int .u64 0, .int .u64 0, .int .u64 0, .bool false, .slice none 0 0, .slice none 0 0, .bool false, .int .u64 0, .slice none 0 0, .slice none 0 0, .slice none 0 0] 100) = w1 := ⟨_, rfl⟩
 have H1 := zh (h.mv (L := fun _ => False) (Mv.alloc own w (.cells #[.bool false, .bool false, .int .u8 0, .int .u64 0, .int .u64 0, .int .u64 0, .int .u64 0, .int .u64 0, .bool false, .slice none 0 0, .slice none 0 0, .bool false, .int .u64 0, .slice none 0 0, .slice none 0 0, .slice none 0 0] 100) 9) id)
 have HX1 := zh (Bx.new own w #[.bool false, .bool false, .int .u8 0, .int .u64 0, .int .u64 0, .int .u64 0, .int .u64 0, .int .u64 0, .bool false, .slice none 0 0, .slice none 0 0, .bool false, .int .u64 0, .slice none 0 0, .slice none 0 0, .slice none 0 0] 100)
 have HM1 := zh ((Mv.refl (fun l => l = i ∨ l = 7) own w).alloc7 (.cells #[.bool false, .bool false, .int .u8 0, .int .u64 0, .int .u64 0, .int .u64 0, .int .u64 0, .int .u64 0, .bool false, .slice none 0 0, .slice none 0 0, .bool false, .int .u64 0, .slice none 0 0, .slice none 0 0, .slice none 0 0] 100))
 rw [hw1] at H1 HX1 HM1
 have HW := zh hw1
 clear h hw1 hb hbl hbq hbb
 generalize ext own w.heap.size 9 = own1 at *
 generalize hq : w1.heap.size = q at *
 have Hbeg := zh (begin_w own1 i p g r w1 H1.out)
 rw [hq] at Hbeg
 have HN := zh (none_w own1 i p g r w1 H1.out)
 clear hq
 go_enter Try.func58, Try.ntmps58
 go_upto_region 1 with (fail)
 rw [HW.out]
 go_upto_region 4 with (first
  | (go_at_call 106; refine (HN.out).mono ?_; rintro e w2 ⟨rfl, rfl⟩)
  | (go_at_call 107; refine (Hbeg.out).mono ?_; rintro e w2 ⟨rfl, own2, h2, hm2⟩; have H2 := zh h2; have HX2 := zh (HX1.out.mv hm2 id); have HM2 := zh (HM1.out.trans (hm2.mono fun l e => e.elim)); clear h2 hm2))
 clear H1 HX1 HM1 HW HN Hbeg
 have hrl := H2.out.nd.crole
 have hp2 := H2.out.nd.cT
 have hp10 := H2.out.nd.cquiet
 have hf10 := H2.out.nd.frozen 10
 go_upto_region 10 with (fail)
 go_still_tail 14, (by kernel_rfl)
 change wpList _ _ _ _ _ w2.drew
 have HD := zh H2.out.drew
 have hp10' : w2.drew.cell? ⟨p, 10, none⟩ = some (.int .i64 r.quiet) := hp10
 have hf10' : w2.drew.frozen? ⟨p, 10, none⟩ = false := hf10
 have HXD := zh (HX2.out.mv (Mv.drew (fun _ => False) own2 w2) id)
 have HMD := zh (HM2.out.trans (Mv.drew (fun l => l = i ∨ l = 7) own2 w2))
 clear hrl hp2 hp10 hf10 H2 HX2 HM2
 generalize w2.drew = wd at *
 go_upto_region 11 with (fail)
 generalize hmq : (if (r.T : Int) < r.quiet + 1 then (r.T : Int) else r.quiet + 1) = mq
 have Hmq : Hid (mq = min (r.quiet + 1) (r.T : Int)) := zh (by rw [← hmq]; split <;> omega)
 clear hmq hp10' hf10'
 have H3 := zh (HD.out.setp 10 (.int .i64 mq) { r with quiet := mq } rfl rfl rfl rfl)
 have hm3 := Mv.set (L := fun l => l = i) (own := own2) (w := wd) (a := ⟨p, 10, none⟩) HD.out.nd.op (.int .i64 mq)
 have HX3 := zh (HXD.out.mv hm3 (by omega))
 have HM3 := zh (HMD.out.trans (hm3.mono fun l e => .inl e))
 clear hm3 HD HXD HMD
 generalize wd.setCell ⟨p, 10, none⟩ (.int .i64 mq) = w3 at *
 have hp9 : w3.cell? ⟨p, 9, none⟩ = some (.int .i64 r.left) := H3.out.nd.cleft
 have hf9 := H3.out.nd.frozen 9
 have h4 := H3.out.setp 9 (.int .i64 (r.left - 1)) { r with quiet := mq, left := r.left - 1 } rfl rfl rfl rfl
 rw [Hmq.out] at h4
 have H4 := zh h4
 have hm4 := Mv.set (L := fun l => l = i) (own := own2) (w := w3) (a := ⟨p, 9, none⟩) H3.out.nd.op (.int .i64 (r.left - 1))
 have HX4 := zh (HX3.out.mv hm4 (by omega))
 have HM4 := zh (HM3.out.trans (hm4.mono fun l e => .inl e))
 go_upto_region 12 with (fail)
 clear hp9 hf9 h4 hm4 H3 HX3 HM3
 generalize w3.setCell ⟨p, 9, none⟩ (.int .i64 (r.left - 1)) = w4 at *
 have hp9 : w4.cell? ⟨p, 9, none⟩ = some (.int .i64 (r.left - 1)) := H4.out.nd.cleft
 have hrl := H4.out.nd.crole
 have Hmost := zh (most_w own2 i p g _ w4 H4.out.nd Hb.out.n7)
 have Hmo := zh (show ({ r with quiet := min (r.quiet + 1) (r.T : Int), left := r.left - 1 } : RS.Rf).most = false from hmo)
 rw [Hmo.out] at Hmost
 clear hmo
 go_upto_region 14 with (go_at_call 115; refine (Hmost.out).mono ?_; rintro e w5 ⟨rfl, hS5⟩; have H5 := zh (H4.out.mv (L := fun _ => False) (Mv.same0 hS5) id id); have HX5 := zh (HX4.out.mv (L := fun _ => False) (Mv.same0 hS5) id); have HM5 := zh (HM4.out.trans (Mv.same0 hS5)); clear hS5 hrl hp9)
 have Hfo := zh (follow_w own2 i p q g r.term r.who _ _ _ w5 H5.out (by show r.T ≤ 20; omega) d hd)
 go_upto_region 27 with (go_at_call 117; refine (Hfo.out).mono ?_; rintro e w6 ⟨⟨v, rfl⟩, h6, hm6⟩; have H6 := zh h6; have HX6 := zh (HX5.out.mv hm6 (by omega)); have HM6 := zh (HM5.out.trans (hm6.mono fun l e => .inl e)); clear h6 hm6)
 have HDn := zh (nddone_w _ i p q g r.term r.who _ _ _ _ H6.out)
 go_wp2_with (first
  | (refine wpList_store_rowTo rfl 100 (.tmp 4) (.tmp 149) rfl rfl _ (Ov.cells x9) rfl rfl 100 _ HZ.out (show _ = some 16 by kernel_rfl) rfl (ov_one x9) ?_)
  | (go_at_call 111; refine (HDn.out).mono ?_; rintro e w9 ⟨x9, own9, g9, rfl, hn9, ho9, hm9⟩; have HN9 := zh hn9; have HO9 := zh ho9; have HM9 := zh (HM6.out.trans (hm9.mono fun l e => .inr e)); have HX9 := zh (HX6.out.mv hm9 (by decide)); have HZ := zh HX9.out.row; clear hn9 ho9 hm9))
 exact bodyPost_ret (results_cell_row rfl _ _ w.heap.size 100 _ _ _ rfl (setRow_heap _ _ _ _ _ _ HZ.out) Try.underlying100 rfl (show _ = some 16 by kernel_rfl)) rfl (Told.fin HN9.out HO9.out HM9.out HX9.out (Nat.le_refl _))
end
end Go.Proofs.Yteellfgiejnigaa
