/- RaftSafe: G17. -/
import Derived.Test.YteellfgiejnigaaQtA00
import Derived.Test.YteellfgiejnigaaQtA22
namespace Go.Proofs.Yteellfgiejnigaa
open Go.ChangeShapes Go.WideShapes Go.ChangeAt Go.RowKit
set_option linter.unusedVariables false
section
variable {own own' : Own} {w w' : World} {i p q g t0 N : Nat} {who0 : Int} {r : RS.Rf} {x : Ov} {o : RS.Ou} {M : Nat}
theorem Nb.alone (h : Nb M r) : Nb M r.alone := ⟨h.hM, h.n7, h.id, h.T1, h.T2, h.term, h.base, h.bt, h.len, h.es, h.commit, h.role, h.leader, h.left, h.quiet, h.beat, h.who, h.round, h.next, h.mt⟩
theorem ask_fold (r : RS.Rf) (x : RS.Nt) : ∀ (l : List Nat) (o : RS.Ou), (l.foldl (fun o i => r.put o i x) o).add = o.add ∧ (l.foldl (fun o i => r.put o i x) o).need = o.need ∧ (l.foldl (fun o i => r.put o i x) o).send.length = o.send.length + l.length := by
 intro l
 induction l with
 | nil => intro o; exact ⟨rfl, rfl, rfl⟩
 | cons a l ih =>
  intro o
  obtain ⟨h1, h2, h3⟩ := ih (r.put o a x)
  refine ⟨h1, h2, ?_⟩
  rw [List.foldl_cons, h3]
  show (o.send ++ [_]).length + l.length = o.send.length + (l.length + 1)
  simp; omega
theorem ask_add (r : RS.Rf) (o : RS.Ou) (k : Nat) : (r.ask o k).add = o.add := (ask_fold r _ _ o).1
theorem ask_need (r : RS.Rf) (o : RS.Ou) (k : Nat) : (r.ask o k).need = o.need := (ask_fold r _ _ o).2.1
theorem ask_len (r : RS.Rf) (o : RS.Ou) (k : Nat) : (r.ask o k).send.length ≤ o.send.length + r.n := by
 have h := (ask_fold r (r.askN k) r.others o).2.2
 have h2 := otTo_len r.id r.n
 have h3 : r.others = otTo r.id r.n := rfl
 unfold RS.Rf.ask
 rw [h, h3]
 omega
set_option maxRecDepth 100000 in
set_option maxHeartbeats 2000000 in
theorem tick_b2_w (own : Own) (i p g : Nat) (r : RS.Rf) (w : World) (h : NdAt own w i p g r) (M : Nat) (hb : Nb M r) (hM : M ≤ 90000) (d : Nat) (hd : d < 2 ^ 64) (hr : r.role = 0) (hbe : ¬ 0 < r.left - 1) :
 Calls Try.prog 58 #[.pointer (some ⟨p, 0, none⟩), .int .u64 (d : Int)] w (Told own w (fun l => l = i ∨ l = 7) i p ({ ({ r with quiet := min (r.quiet + 1) (r.T : Int), left := r.left - 1 } : RS.Rf) with role := 1, left := 2 * (r.T : Int), round := r.round + 1 } : RS.Rf).alone (({ ({ r with quiet := min (r.quiet + 1) (r.T : Int), left := r.left - 1 } : RS.Rf) with role := 1, left := 2 * (r.T : Int), round := r.round + 1 } : RS.Rf).alone.ask RS.Ou.none 1)) := by
 have hi7 := h.hi
 have hbt := hb.T2
 have hbl := hb.left
 have hbq := hb.quiet
 have hbb := hb.beat
 have hbl1 := hbl.1
 have hbl2 := hbl.2
 have hbq1 := hbq.1
 have hbq2 := hbq.2
 have hbb1 := hbb.1
 have hbb2 := hbb.2
 have Hb := zh hb
 have e1 : ((r.role : Int) == 3) = false := by simp; omega
 have e2 : (r.role == 3) = false := by simp; omega
 have e5 : IntKind.i64.wrap (r.quiet + 1) = r.quiet + 1 := IntWalk.i64_in _ (by omega)
 have e6 : decide (0 < r.left - 1) = false := by simp; omega
 have e7 : decide (1 < r.left) = false := by simp; omega
 have qza : ((r.role : Int) == 0) = true := by simp; omega
 have qzb : (r.role == 0) = true := by simp; omega
 have hT2 : IntKind.i64.wrap (2 * (r.T : Int)) = 2 * (r.T : Int) := IntWalk.i64_in _ (by omega)
 have Hm9 := zh hM
 obtain ⟨rd, hrd⟩ : ∃ y, y = r.round + 1 := ⟨_, rfl⟩
 have hrd1 : IntKind.u64.wrap (rd : Int) = (rd : Int) := by have := hb.round; exact IntWalk.u64_in _ (by omega)
 have hrd2 : (r.round : Int) + 1 = (rd : Int) := by omega
 have Hrd := zh hrd
 clear hr hbe hrd
 obtain ⟨w1, hw1⟩ : ∃ w1, w.alloc (.cells #[.bool false, .bool false, .int .u8 0, .int .u64 0, .int .u64 0, .int .u64 0, .int .u64 0, .int .u64 0, .bool false, .slice none 0 0, .slice none 0 0, .bool false, .int .u64 0, .slice none 0 0, .slice none 0 0, .slice none 0 0] 100) = w1 := ⟨_, rfl⟩
 have H1 := zh (h.mv (L := fun _ => False) (Mv.alloc own w (.cells #[.bool false, .bool false, .int .u8 0, .int .u64 0, .int .u64 0, .int .u64 0, .int .u64 0, .int .u64 0, .bool false, .slice none 0 0, .slice none 0 0, .bool false, .int .u64 0, .slice none 0 0, .slice none 0 0, .slice none 0 0] 100) 9) id)
 have HX1 := zh (Bx.new own w #[.bool false, .bool false, .int .u8 0, .int .u64 0, .int .u64 0, .int .u64 0, .int .u64 0, .int .u64 0, .bool false, .slice none 0 0, .slice none 0 0, .bool false, .int .u64 0, .slice none 0 0, .slice none 0 0, .slice none 0 0] 100)
 have HM1 := zh ((Mv.refl (fun l => l = i ∨ l = 7) own w).alloc7 (.cells #[.bool false, .bool false, .int .u8 0, .int .u64 0, .int .u64 0, .int .u64 0, .int .u64 0, .int .u64 0, .bool false, .slice none 0 0, .slice none 0 0, .bool false, .int .u64 0, .slice none 0 0, .slice none 0 0, .slice none 0 0] 100))
 rw [hw1] at H1 HX1 HM1
 have HW := zh hw1
 clear h hw1 hb hbl hbq hbb
 generalize ext own w.heap.size 9 = own1 at *
 generalize hq : w1.heap.size = q at *
 have Hbeg := zh (begin_w own1 i p g r w1 H1.out)
 rw [hq] at Hbeg
 have HN := zh (none_w own1 i p g r w1 H1.out)
 clear hq
 go_enter Try.func58, Try.ntmps58
 go_upto_region 1 with (fail)
 rw [HW.out]
 go_upto_region 4 with (first
  | (go_at_call 106; refine (HN.out).mono ?_; rintro e w2 ⟨rfl, rfl⟩)
  | (go_at_call 107; refine (Hbeg.out).mono ?_; rintro e w2 ⟨rfl, own2, h2, hm2⟩; have H2 := zh h2; have HX2 := zh (HX1.out.mv hm2 id); have HM2 := zh (HM1.out.trans (hm2.mono fun l e => e.elim)); clear h2 hm2))
 clear H1 HX1 HM1 HW HN Hbeg
 have hrl := H2.out.nd.crole
 have hp2 := H2.out.nd.cT
 have hp10 := H2.out.nd.cquiet
 have hf10 := H2.out.nd.frozen 10
 go_upto_region 10 with (fail)
 go_still_tail 14, (by kernel_rfl)
 change wpList _ _ _ _ _ w2.drew
 have HD := zh H2.out.drew
 have hp10' : w2.drew.cell? ⟨p, 10, none⟩ = some (.int .i64 r.quiet) := hp10
 have hf10' : w2.drew.frozen? ⟨p, 10, none⟩ = false := hf10
 have HXD := zh (HX2.out.mv (Mv.drew (fun _ => False) own2 w2) id)
 have HMD := zh (HM2.out.trans (Mv.drew (fun l => l = i ∨ l = 7) own2 w2))
 clear hrl hp2 hp10 hf10 H2 HX2 HM2
 generalize w2.drew = wd at *
 go_upto_region 11 with (fail)
 generalize hmq : (if (r.T : Int) < r.quiet + 1 then (r.T : Int) else r.quiet + 1) = mq
 have Hmq : Hid (mq = min (r.quiet + 1) (r.T : Int)) := zh (by rw [← hmq]; split <;> omega)
 clear hmq hp10' hf10'
 have H3 := zh (HD.out.setp 10 (.int .i64 mq) { r with quiet := mq } rfl rfl rfl rfl)
 have hm3 := Mv.set (L := fun l => l = i) (own := own2) (w := wd) (a := ⟨p, 10, none⟩) HD.out.nd.op (.int .i64 mq)
 have HX3 := zh (HXD.out.mv hm3 (by omega))
 have HM3 := zh (HMD.out.trans (hm3.mono fun l e => .inl e))
 clear hm3 HD HXD HMD
 generalize wd.setCell ⟨p, 10, none⟩ (.int .i64 mq) = w3 at *
 have hp9 : w3.cell? ⟨p, 9, none⟩ = some (.int .i64 r.left) := H3.out.nd.cleft
 have hf9 := H3.out.nd.frozen 9
 have h4 := H3.out.setp 9 (.int .i64 (r.left - 1)) { r with quiet := mq, left := r.left - 1 } rfl rfl rfl rfl
 rw [Hmq.out] at h4
 have H4 := zh h4
 have hm4 := Mv.set (L := fun l => l = i) (own := own2) (w := w3) (a := ⟨p, 9, none⟩) H3.out.nd.op (.int .i64 (r.left - 1))
 have HX4 := zh (HX3.out.mv hm4 (by omega))
 have HM4 := zh (HM3.out.trans (hm4.mono fun l e => .inl e))
 go_upto_region 12 with (fail)
 clear hp9 hf9 h4 hm4 H3 HX3 HM3
 generalize w3.setCell ⟨p, 9, none⟩ (.int .i64 (r.left - 1)) = w4 at *
 have hp9 : w4.cell? ⟨p, 9, none⟩ = some (.int .i64 (r.left - 1)) := H4.out.nd.cleft
 have Hnb2 := zh (show Nb (M + 1) ({ ({ r with quiet := min (r.quiet + 1) (r.T : Int), left := r.left - 1 } : RS.Rf) with role := 1, left := 2 * (r.T : Int), round := r.round + 1 } : RS.Rf) from ⟨by have := Hm9.out; omega, Hb.out.n7, Hb.out.id, Hb.out.T1, Hb.out.T2, by have := Hb.out.term; show r.term ≤ M + 1; omega, Nat.le_succ_of_le Hb.out.base, Nat.le_succ_of_le Hb.out.bt, Nat.le_succ_of_le Hb.out.len, fun e he => ⟨Nat.le_succ_of_le (Hb.out.es e he).1, (Hb.out.es e he).2⟩, Nat.le_succ_of_le Hb.out.commit, by show (1 : Nat) ≤ 3; decide, Hb.out.leader, by have h2 := Hb.out.T2; have h1 := Hb.out.T1; show -1 ≤ (2 * (r.T : Int)) ∧ (2 * (r.T : Int)) ≤ 50; omega, by have h2 := Hb.out.T2; have h1 := Hb.out.quiet; show 0 ≤ min (r.quiet + 1) (r.T : Int) ∧ min (r.quiet + 1) (r.T : Int) ≤ 50; omega, Hb.out.beat, Hb.out.who, by have := Hb.out.round; show r.round + 1 ≤ M + 1; omega, fun q => Nat.le_succ_of_le (Hb.out.next q), fun q => Nat.le_succ_of_le (Hb.out.mt q)⟩)
 have hrl := H4.out.nd.crole
 have hp2 := H4.out.nd.cT
 have hp12 := H4.out.nd.cround
 have hf7 := H4.out.nd.frozen 7
 have hf9 := H4.out.nd.frozen 9
 have hf12 := H4.out.nd.frozen 12
 go_upto_region 17 with (fail)
 have h5 := (H4.out.setp 7 (.int .u8 1) { ({ r with quiet := min (r.quiet + 1) (r.T : Int), left := r.left - 1 } : RS.Rf) with role := 1 } rfl rfl rfl rfl).setp 9 (.int .i64 (2 * (r.T : Int))) { ({ r with quiet := min (r.quiet + 1) (r.T : Int), left := r.left - 1 } : RS.Rf) with role := 1, left := 2 * (r.T : Int) } rfl rfl rfl rfl
 have hm5 := (Mv.set (L := fun l => l = i) (own := own2) (w := w4) (a := ⟨p, 7, none⟩) H4.out.nd.op (.int .u8 1)).trans (Mv.set (L := fun l => l = i) (a := ⟨p, 9, none⟩) H4.out.nd.op (.int .i64 (2 * (r.T : Int))))
 have H5 := zh h5
 have HX5 := zh (HX4.out.mv hm5 (by omega))
 have HM5 := zh (HM4.out.trans (hm5.mono fun l e => .inl e))
 clear h5 hm5 hrl hp2 hp12 hf7 hf9 hf12 hp9 H4 HX4 HM4
 generalize (w4.setCell ⟨p, 7, none⟩ (.int .u8 1)).setCell ⟨p, 9, none⟩ (.int .i64 (2 * (r.T : Int))) = w5 at *
 have hp12 : w5.cell? ⟨p, 12, none⟩ = some (.int .u64 (r.round : Int)) := H5.out.nd.cround
 have hf12 := H5.out.nd.frozen 12
 go_upto_region 18 with (fail)
 have h6 := H5.out.setp 12 (.int .u64 (rd : Int)) ({ ({ r with quiet := min (r.quiet + 1) (r.T : Int), left := r.left - 1 } : RS.Rf) with role := 1, left := 2 * (r.T : Int), round := r.round + 1 } : RS.Rf) (by rw [Hrd.out]; rfl) rfl rfl rfl
 have hm6 := Mv.set (L := fun l => l = i) (own := own2) (w := w5) (a := ⟨p, 12, none⟩) H5.out.nd.op (.int .u64 (rd : Int))
 have H6 := zh h6
 have HX6 := zh (HX5.out.mv hm6 (by omega))
 have HM6 := zh (HM5.out.trans (hm6.mono fun l e => .inl e))
 clear h6 hm6 hp12 hf12 H5 HX5 HM5
 generalize w5.setCell ⟨p, 12, none⟩ (.int .u64 (rd : Int)) = w6 at *
 have Hal := zh (alone_w own2 i p g ({ ({ r with quiet := min (r.quiet + 1) (r.T : Int), left := r.left - 1 } : RS.Rf) with role := 1, left := 2 * (r.T : Int), round := r.round + 1 } : RS.Rf) w6 H6.out.nd (by have h1 := Hb.out.id; have h2 := Hb.out.n7; show r.id < 7; omega))
 go_upto_region 19 with (go_at_call 113; refine (Hal.out).mono ?_; rintro e w7 ⟨⟨v, rfl⟩, h7, hm7⟩; have H7 := zh (H6.out.of_nd h7 hm7); have HX7 := zh (HX6.out.mv hm7 (by omega)); have HM7 := zh (HM6.out.trans (hm7.mono fun l e => .inl e)); clear h7 hm7)
 have Hask := zh (ask1_w own2 i p q g r.term r.who ({ ({ r with quiet := min (r.quiet + 1) (r.T : Int), left := r.left - 1 } : RS.Rf) with role := 1, left := 2 * (r.T : Int), round := r.round + 1 } : RS.Rf).alone _ RS.Ou.none w7 H7.out (M + 1) (Nb.alone Hnb2.out) (by decide))
 go_upto_region 27 with (go_at_call 114; refine (Hask.out).mono ?_; rintro e w8 ⟨⟨v, rfl⟩, own8, x8, h8, hA8, hm8⟩; have H8 := zh h8; have HX8 := zh (HX7.out.mv hm8 (by decide)); have HM8 := zh (HM7.out.trans (hm8.mono fun l e => .inr e)); clear h8 hA8 hm8)
 clear H6 HX6 HM6 H7 HX7 HM7 Hal Hask
 have HDn := zh (nddone_w _ i p q g r.term r.who _ _ _ _ H8.out)
 go_wp2_with (first
  | (refine wpList_store_rowTo rfl 100 (.tmp 4) (.tmp 149) rfl rfl _ (Ov.cells x9) rfl rfl 100 _ HZ.out (show _ = some 16 by kernel_rfl) rfl (ov_one x9) ?_)
  | (go_at_call 111; refine (HDn.out).mono ?_; rintro e w9 ⟨x9, own9, g9, rfl, hn9, ho9, hm9⟩; have HN9 := zh hn9; have HO9 := zh ho9; have HM9 := zh (HM8.out.trans (hm9.mono fun l e => .inr e)); have HX9 := zh (HX8.out.mv hm9 (by decide)); have HZ := zh HX9.out.row; clear hn9 ho9 hm9))
 exact bodyPost_ret (results_cell_row rfl _ _ w.heap.size 100 _ _ _ rfl (setRow_heap _ _ _ _ _ _ HZ.out) Try.underlying100 rfl (show _ = some 16 by kernel_rfl)) rfl (Told.fin HN9.out HO9.out HM9.out HX9.out (Nat.le_refl _))
set_option maxRecDepth 100000 in
set_option maxHeartbeats 2000000 in
theorem tick_b3a_w (own : Own) (i p g : Nat) (r : RS.Rf) (w : World) (h : NdAt own w i p g r) (M : Nat) (hb : Nb M r) (hM : M ≤ 90000) (d : Nat) (hd : d < 2 ^ 64) (hr : r.role = 1) (hbe : ¬ 0 < r.left - 1) (hmo : r.most = true) (hmo2 : ({ ({ r with quiet := min (r.quiet + 1) (r.T : Int), left := r.left - 1 } : RS.Rf) with role := 2, who := (r.id : Int), leader := -1, left := (r.T : Int), term := r.term + 1 } : RS.Rf).alone.most = false) :
 Calls Try.prog 58 #[.pointer (some ⟨p, 0, none⟩), .int .u64 (d : Int)] w (Told own w (fun l => l = i ∨ l = 7) i p ({ ({ r with quiet := min (r.quiet + 1) (r.T : Int), left := r.left - 1 } : RS.Rf) with role := 2, who := (r.id : Int), leader := -1, left := (r.T : Int), term := r.term + 1 } : RS.Rf).alone (({ ({ r with quiet := min (r.quiet + 1) (r.T : Int), left := r.left - 1 } : RS.Rf) with role := 2, who := (r.id : Int), leader := -1, left := (r.T : Int), term := r.term + 1 } : RS.Rf).alone.ask RS.Ou.none 3)) := by
 have hi7 := h.hi
 have hbt := hb.T2
 have hbl := hb.left
 have hbq := hb.quiet
 have hbb := hb.beat
 have hbl1 := hbl.1
 have hbl2 := hbl.2
 have hbq1 := hbq.1
 have hbq2 := hbq.2
 have hbb1 := hbb.1
 have hbb2 := hbb.2
 have Hb := zh hb
 have e1 : ((r.role : Int) == 3) = false := by simp; omega
 have e2 : (r.role == 3) = false := by simp; omega
 have e5 : IntKind.i64.wrap (r.quiet + 1) = r.quiet + 1 := IntWalk.i64_in _ (by omega)
 have e6 : decide (0 < r.left - 1) = false := by simp; omega
 have e7 : decide (1 < r.left) = false := by simp; omega
 have qza : ((r.role : Int) == 0) = false := by simp; omega
 have qzb : (r.role == 0) = false := by simp; omega
 have qya : ((r.role : Int) == 1) = true := by simp; omega
 have qyb : (r.role == 1) = true := by simp; omega
 have Hm9 := zh hM
 obtain ⟨tm, htm⟩ : ∃ y, y = r.term + 1 := ⟨_, rfl⟩
 have htm1 : IntKind.u64.wrap (tm : Int) = (tm : Int) := by have h1 := hb.term; have h2 := hb.hM; exact IntWalk.u64_in _ (by omega)
 have htm2 : (r.term : Int) + 1 = (tm : Int) := by omega
 have htl1 : decide (r.term < 18446744073709551615) = true := by have h1 := hb.term; have h2 := hb.hM; simp; omega
 have htl2 : decide ((r.term : Int) < 18446744073709551615) = true := by have h1 := hb.term; have h2 := hb.hM; simp; omega
 have Htm := zh htm
 have Hmo := zh hmo
 have Hmo2 := zh hmo2
 clear hr hbe htm hmo hmo2
 obtain ⟨w1, hw1⟩ : ∃ w1, w.alloc (.cells #[.bool false, .bool false, .int .u8 0, .int .u64 0, .int .u64 0, .int .u64 0, .int .u64 0, .int .u64 0, .bool false, .slice none 0 0, .slice none 0 0, .bool false, .int .u64 0, .slice none 0 0, .slice none 0 0, .slice none 0 0] 100) = w1 := ⟨_, rfl⟩
 have H1 := zh (h.mv (L := fun _ => False) (Mv.alloc own w (.cells #[.bool false, .bool false, .int .u8 0, .int .u64 0, .int .u64 0, .int .u64 0, .int .u64 0, .int .u64 0, .bool false, .slice none 0 0, .slice none 0 0, .bool false, .int .u64 0, .slice none 0 0, .slice none 0 0, .slice none 0 0] 100) 9) id)
 have HX1 := zh (Bx.new own w #[.bool false, .bool false, .int .u8 0, .int .u64 0, .int .u64 0, .int .u64 0, .int .u64 0, .int .u64 0, .bool false, .slice none 0 0, .slice none 0 0, .bool false, .int .u64 0, .slice none 0 0, .slice none 0 0, .slice none 0 0] 100)
 have HM1 := zh ((Mv.refl (fun l => l = i ∨ l = 7) own w).alloc7 (.cells #[.bool false, .bool false, .int .u8 0, .int .u64 0, .int .u64 0, .int .u64 0, .int .u64 0, .int .u64 0, .bool false, .slice none 0 0, .slice none 0 0, .bool false, .int .u64 0, .slice none 0 0, .slice none 0 0, .slice none 0 0] 100))
 rw [hw1] at H1 HX1 HM1
 have HW := zh hw1
 clear h hw1 hb hbl hbq hbb
 generalize ext own w.heap.size 9 = own1 at *
 generalize hq : w1.heap.size = q at *
 have Hbeg := zh (begin_w own1 i p g r w1 H1.out)
 rw [hq] at Hbeg
 have HN := zh (none_w own1 i p g r w1 H1.out)
 clear hq
 go_enter Try.func58, Try.ntmps58
 go_upto_region 1 with (fail)
 rw [HW.out]
 go_upto_region 4 with (first
  | (go_at_call 106; refine (HN.out).mono ?_; rintro e w2 ⟨rfl, rfl⟩)
  | (go_at_call 107; refine (Hbeg.out).mono ?_; rintro e w2 ⟨rfl, own2, h2, hm2⟩; have H2 := zh h2; have HX2 := zh (HX1.out.mv hm2 id); have HM2 := zh (HM1.out.trans (hm2.mono fun l e => e.elim)); clear h2 hm2))
 clear H1 HX1 HM1 HW HN Hbeg
 have hrl := H2.out.nd.crole
 have hp2 := H2.out.nd.cT
 have hp10 := H2.out.nd.cquiet
 have hf10 := H2.out.nd.frozen 10
 go_upto_region 10 with (fail)
 go_still_tail 14, (by kernel_rfl)
 change wpList _ _ _ _ _ w2.drew
 have HD := zh H2.out.drew
 have hp10' : w2.drew.cell? ⟨p, 10, none⟩ = some (.int .i64 r.quiet) := hp10
 have hf10' : w2.drew.frozen? ⟨p, 10, none⟩ = false := hf10
 have HXD := zh (HX2.out.mv (Mv.drew (fun _ => False) own2 w2) id)
 have HMD := zh (HM2.out.trans (Mv.drew (fun l => l = i ∨ l = 7) own2 w2))
 clear hrl hp2 hp10 hf10 H2 HX2 HM2
 generalize w2.drew = wd at *
 go_upto_region 11 with (fail)
 generalize hmq : (if (r.T : Int) < r.quiet + 1 then (r.T : Int) else r.quiet + 1) = mq
 have Hmq : Hid (mq = min (r.quiet + 1) (r.T : Int)) := zh (by rw [← hmq]; split <;> omega)
 clear hmq hp10' hf10'
 have H3 := zh (HD.out.setp 10 (.int .i64 mq) { r with quiet := mq } rfl rfl rfl rfl)
 have hm3 := Mv.set (L := fun l => l = i) (own := own2) (w := wd) (a := ⟨p, 10, none⟩) HD.out.nd.op (.int .i64 mq)
 have HX3 := zh (HXD.out.mv hm3 (by omega))
 have HM3 := zh (HMD.out.trans (hm3.mono fun l e => .inl e))
 clear hm3 HD HXD HMD
 generalize wd.setCell ⟨p, 10, none⟩ (.int .i64 mq) = w3 at *
 have hp9 : w3.cell? ⟨p, 9, none⟩ = some (.int .i64 r.left) := H3.out.nd.cleft
 have hf9 := H3.out.nd.frozen 9
 have h4 := H3.out.setp 9 (.int .i64 (r.left - 1)) { r with quiet := mq, left := r.left - 1 } rfl rfl rfl rfl
 rw [Hmq.out] at h4
 have H4 := zh h4
 have hm4 := Mv.set (L := fun l => l = i) (own := own2) (w := w3) (a := ⟨p, 9, none⟩) H3.out.nd.op (.int .i64 (r.left - 1))
 have HX4 := zh (HX3.out.mv hm4 (by omega))
 have HM4 := zh (HM3.out.trans (hm4.mono fun l e => .inl e))
 go_upto_region 12 with (fail)
 clear hp9 hf9 h4 hm4 H3 HX3 HM3
 generalize w3.setCell ⟨p, 9, none⟩ (.int .i64 (r.left - 1)) = w4 at *
 have hp9 : w4.cell? ⟨p, 9, none⟩ = some (.int .i64 (r.left - 1)) := H4.out.nd.cleft
 have Hnb3 := zh (show Nb (M + 1) ({ ({ r with quiet := min (r.quiet + 1) (r.T : Int), left := r.left - 1 } : RS.Rf) with role := 2, who := (r.id : Int), leader := -1, left := (r.T : Int), term := r.term + 1 } : RS.Rf) from ⟨by have := Hm9.out; omega, Hb.out.n7, Hb.out.id, Hb.out.T1, Hb.out.T2, by have := Hb.out.term; show r.term + 1 ≤ M + 1; omega, Nat.le_succ_of_le Hb.out.base, Nat.le_succ_of_le Hb.out.bt, Nat.le_succ_of_le Hb.out.len, fun e he => ⟨Nat.le_succ_of_le (Hb.out.es e he).1, (Hb.out.es e he).2⟩, Nat.le_succ_of_le Hb.out.commit, by show (2 : Nat) ≤ 3; decide, by show (-1 : Int) ≤ -1 ∧ (-1 : Int) ≤ 6; decide, by have h2 := Hb.out.T2; have h1 := Hb.out.T1; show -1 ≤ (r.T : Int) ∧ (r.T : Int) ≤ 50; omega, by have h2 := Hb.out.T2; have h1 := Hb.out.quiet; show 0 ≤ min (r.quiet + 1) (r.T : Int) ∧ min (r.quiet + 1) (r.T : Int) ≤ 50; omega, Hb.out.beat, by have h1 := Hb.out.id; have h2 := Hb.out.n7; show -1 ≤ (r.id : Int) ∧ (r.id : Int) ≤ 6; omega, Nat.le_succ_of_le Hb.out.round, fun q => Nat.le_succ_of_le (Hb.out.next q), fun q => Nat.le_succ_of_le (Hb.out.mt q)⟩)
 have hrl := H4.out.nd.crole
 have hp3 := H4.out.nd.cterm
 have Hmost := zh (most_w own2 i p g _ w4 H4.out.nd Hb.out.n7)
 rw [show ({ r with quiet := min (r.quiet + 1) (r.T : Int), left := r.left - 1 } : RS.Rf).most = true from Hmo.out] at Hmost
 go_upto_region 21 with (go_at_call 115; refine (Hmost.out).mono ?_; rintro e w5 ⟨rfl, hS5⟩; have H5 := zh (H4.out.mv (L := fun _ => False) (Mv.same0 hS5) id id); have HX5 := zh (HX4.out.mv (L := fun _ => False) (Mv.same0 hS5) id); have HM5 := zh (HM4.out.trans (Mv.same0 hS5)); have hp3 := hS5.cell hp3; clear hS5 hrl hp9)
 clear H4 HX4 HM4 Hmost hp3
 have hp1 := H5.out.nd.cid
 have hp2 := H5.out.nd.cT
 have c7 := H5.out.nd.crole
 have c4 := H5.out.nd.cwho
 have c8 := H5.out.nd.cleader
 have c9 := H5.out.nd.cleft
 have f7 := H5.out.nd.frozen 7
 have f4 := H5.out.nd.frozen 4
 have f8 := H5.out.nd.frozen 8
 have f9 := H5.out.nd.frozen 9
 have a1 : (w5.setCell ⟨p, 7, none⟩ (.int .u8 2)).drew.cell? ⟨p, 1, none⟩ = some (.int .i64 (r.id : Int)) := cell_off (by decide) hp1
 have a2 : (w5.setCell ⟨p, 7, none⟩ (.int .u8 2)).drew.cell? ⟨p, 2, none⟩ = some (.int .i64 (r.T : Int)) := cell_off (by decide) hp2
 have b1 : ((w5.setCell ⟨p, 7, none⟩ (.int .u8 2)).setCell ⟨p, 4, none⟩ (.int .i64 (r.id : Int))).drew.cell? ⟨p, 1, none⟩ = some (.int .i64 (r.id : Int)) := cell_off (by decide) a1
 have b2 : ((w5.setCell ⟨p, 7, none⟩ (.int .u8 2)).setCell ⟨p, 4, none⟩ (.int .i64 (r.id : Int))).drew.cell? ⟨p, 2, none⟩ = some (.int .i64 (r.T : Int)) := cell_off (by decide) a2
 have c1 : (((w5.setCell ⟨p, 7, none⟩ (.int .u8 2)).setCell ⟨p, 4, none⟩ (.int .i64 (r.id : Int))).setCell ⟨p, 8, none⟩ (.int .i64 (-1))).drew.cell? ⟨p, 1, none⟩ = some (.int .i64 (r.id : Int)) := cell_off (by decide) b1
 have c2 : (((w5.setCell ⟨p, 7, none⟩ (.int .u8 2)).setCell ⟨p, 4, none⟩ (.int .i64 (r.id : Int))).setCell ⟨p, 8, none⟩ (.int .i64 (-1))).drew.cell? ⟨p, 2, none⟩ = some (.int .i64 (r.T : Int)) := cell_off (by decide) b2
 have d1 : ((((w5.setCell ⟨p, 7, none⟩ (.int .u8 2)).setCell ⟨p, 4, none⟩ (.int .i64 (r.id : Int))).setCell ⟨p, 8, none⟩ (.int .i64 (-1))).setCell ⟨p, 9, none⟩ (.int .i64 (r.T : Int))).drew.cell? ⟨p, 1, none⟩ = some (.int .i64 (r.id : Int)) := cell_off (by decide) c1
 have d2 : ((((w5.setCell ⟨p, 7, none⟩ (.int .u8 2)).setCell ⟨p, 4, none⟩ (.int .i64 (r.id : Int))).setCell ⟨p, 8, none⟩ (.int .i64 (-1))).setCell ⟨p, 9, none⟩ (.int .i64 (r.T : Int))).drew.cell? ⟨p, 2, none⟩ = some (.int .i64 (r.T : Int)) := cell_off (by decide) c2
 go_region_held3 (fun w' => w'.cell? ⟨p, 1, none⟩ = some (.int .i64 (r.id : Int)) ∧ w'.cell? ⟨p, 2, none⟩ = some (.int .i64 (r.T : Int))) (go_keep) (fail)
 rename_i hHeld
 clear hHeld a1 a2 b1 b2 c1 c2 d1 d2 hp1 hp2 c7 c4 c8 c9 f7 f4 f8 f9
 have h6 := ((((H5.out.setp 7 (.int .u8 2) { ({ r with quiet := min (r.quiet + 1) (r.T : Int), left := r.left - 1 } : RS.Rf) with role := 2 } rfl rfl rfl rfl).setp 4 (.int .i64 (r.id : Int)) { ({ r with quiet := min (r.quiet + 1) (r.T : Int), left := r.left - 1 } : RS.Rf) with role := 2, who := (r.id : Int) } rfl rfl rfl rfl).setp 8 (.int .i64 (-1)) { ({ r with quiet := min (r.quiet + 1) (r.T : Int), left := r.left - 1 } : RS.Rf) with role := 2, who := (r.id : Int), leader := -1 } rfl rfl rfl rfl).setp 9 (.int .i64 (r.T : Int)) { ({ r with quiet := min (r.quiet + 1) (r.T : Int), left := r.left - 1 } : RS.Rf) with role := 2, who := (r.id : Int), leader := -1, left := (r.T : Int) } rfl rfl rfl rfl).drew
 have hm6 := ((((Mv.set (L := fun l => l = i) (own := own2) (w := w5) (a := ⟨p, 7, none⟩) H5.out.nd.op (.int .u8 2)).trans (Mv.set (L := fun l => l = i) (a := ⟨p, 4, none⟩) H5.out.nd.op (.int .i64 (r.id : Int)))).trans (Mv.set (L := fun l => l = i) (a := ⟨p, 8, none⟩) H5.out.nd.op (.int .i64 (-1)))).trans (Mv.set (L := fun l => l = i) (a := ⟨p, 9, none⟩) H5.out.nd.op (.int .i64 (r.T : Int)))).trans (Mv.drew _ _ _)
 have H6 := zh h6
 have HX6 := zh (HX5.out.mv hm6 (by omega))
 have HM6 := zh (HM5.out.trans (hm6.mono fun l e => .inl e))
 clear h6 hm6 H5 HX5 HM5
 generalize ((((w5.setCell ⟨p, 7, none⟩ (.int .u8 2)).setCell ⟨p, 4, none⟩ (.int .i64 (r.id : Int))).setCell ⟨p, 8, none⟩ (.int .i64 (-1))).setCell ⟨p, 9, none⟩ (.int .i64 (r.T : Int))).drew = w6 at *
 have hp3 : w6.cell? ⟨p, 3, none⟩ = some (.int .u64 (r.term : Int)) := H6.out.nd.cterm
 have hf3 := H6.out.nd.frozen 3
 go_upto_region 23 with (fail)
 have h7 := H6.out.setp 3 (.int .u64 (tm : Int)) ({ ({ r with quiet := min (r.quiet + 1) (r.T : Int), left := r.left - 1 } : RS.Rf) with role := 2, who := (r.id : Int), leader := -1, left := (r.T : Int), term := r.term + 1 } : RS.Rf) (by rw [Htm.out]; rfl) rfl rfl rfl
 have hm7 := Mv.set (L := fun l => l = i) (own := own2) (w := w6) (a := ⟨p, 3, none⟩) H6.out.nd.op (.int .u64 (tm : Int))
 have H7 := zh h7
 have HX7 := zh (HX6.out.mv hm7 (by omega))
 have HM7 := zh (HM6.out.trans (hm7.mono fun l e => .inl e))
 clear h7 hm7 hp3 hf3 H6 HX6 HM6
 generalize w6.setCell ⟨p, 3, none⟩ (.int .u64 (tm : Int)) = w7 at *
 have Hal := zh (alone_w own2 i p g ({ ({ r with quiet := min (r.quiet + 1) (r.T : Int), left := r.left - 1 } : RS.Rf) with role := 2, who := (r.id : Int), leader := -1, left := (r.T : Int), term := r.term + 1 } : RS.Rf) w7 H7.out.nd (by have h1 := Hb.out.id; have h2 := Hb.out.n7; show r.id < 7; omega))
 go_upto_region 24 with (go_at_call 113; refine (Hal.out).mono ?_; rintro e w8 ⟨⟨v, rfl⟩, h8, hm8⟩; have H8 := zh (H7.out.of_nd h8 hm8); have HX8 := zh (HX7.out.mv hm8 (by omega)); have HM8 := zh (HM7.out.trans (hm8.mono fun l e => .inl e)); clear h8 hm8)
 have Hask := zh (ask3_w own2 i p q g r.term r.who ({ ({ r with quiet := min (r.quiet + 1) (r.T : Int), left := r.left - 1 } : RS.Rf) with role := 2, who := (r.id : Int), leader := -1, left := (r.T : Int), term := r.term + 1 } : RS.Rf).alone _ RS.Ou.none w8 H8.out (M + 1) (Nb.alone Hnb3.out) (by decide))
 go_upto_region 25 with (go_at_call 114; refine (Hask.out).mono ?_; rintro e w9' ⟨⟨v, rfl⟩, own9', x9', h9', hA9, hm9'⟩; have H9 := zh h9'; have HA9 := zh hA9; have HX9' := zh (HX8.out.mv hm9' (by decide)); have HM9' := zh (HM8.out.trans (hm9'.mono fun l e => .inr e)); clear h9' hA9 hm9')
 clear H7 HX7 HM7 H8 HX8 HM8 Hal Hask
 have Hmost2 := zh (most_w own9' i p g _ w9' H9.out.nd (show r.n ≤ 7 from Hb.out.n7))
 rw [Hmo2.out] at Hmost2
 go_upto_region 27 with (go_at_call 115; refine (Hmost2.out).mono ?_; rintro e wa ⟨rfl, hSa⟩; have HA := zh (H9.out.mv (L := fun _ => False) (Mv.same0 hSa) id id); have HXA := zh (HX9'.out.mv (L := fun _ => False) (Mv.same0 hSa) id); have HMA := zh (HM9'.out.trans (Mv.same0 hSa)); clear hSa)
 clear H9 HX9' HM9' Hmost2
 have HDn := zh (nddone_w _ i p q g r.term r.who _ _ _ _ HA.out)
 go_wp2_with (first
  | (refine wpList_store_rowTo rfl 100 (.tmp 4) (.tmp 149) rfl rfl _ (Ov.cells x9) rfl rfl 100 _ HZ.out (show _ = some 16 by kernel_rfl) rfl (ov_one x9) ?_)
  | (go_at_call 111; refine (HDn.out).mono ?_; rintro e w9 ⟨x9, own9, g9, rfl, hn9, ho9, hm9⟩; have HN9 := zh hn9; have HO9 := zh ho9; have HM9 := zh (HMA.out.trans (hm9.mono fun l e => .inr e)); have HX9 := zh (HXA.out.mv hm9 (by decide)); have HZ := zh HX9.out.row; clear hn9 ho9 hm9))
 exact bodyPost_ret (results_cell_row rfl _ _ w.heap.size 100 _ _ _ rfl (setRow_heap _ _ _ _ _ _ HZ.out) Try.underlying100 rfl (show _ = some 16 by kernel_rfl)) rfl (Told.fin HN9.out HO9.out HM9.out HX9.out (Nat.le_refl _))
set_option maxRecDepth 100000 in
set_option maxHeartbeats 2000000 in
theorem tick_b3b_w (own : Own) (i p g : Nat) (r : RS.Rf) (w : World) (h : NdAt own w i p g r) (M : Nat) (hb : Nb M r) (hM : M ≤ 90000) (d : Nat) (hd : d < 2 ^ 64) (hr : r.role = 1) (hbe : ¬ 0 < r.left - 1) (hmo : r.most = true) (hmo2 : ({ ({ r with quiet := min (r.quiet + 1) (r.T : Int), left := r.left - 1 } : RS.Rf) with role := 2, who := (r.id : Int), leader := -1, left := (r.T : Int), term := r.term + 1 } : RS.Rf).alone.most = true) :
 Calls Try.prog 58 #[.pointer (some ⟨p, 0, none⟩), .int .u64 (d : Int)] w (Told own w (fun l => l = i ∨ l = 7) i p (({ ({ r with quiet := min (r.quiet + 1) (r.T : Int), left := r.left - 1 } : RS.Rf) with role := 2, who := (r.id : Int), leader := -1, left := (r.T : Int), term := r.term + 1 } : RS.Rf).alone.lead (({ ({ r with quiet := min (r.quiet + 1) (r.T : Int), left := r.left - 1 } : RS.Rf) with role := 2, who := (r.id : Int), leader := -1, left := (r.T : Int), term := r.term + 1 } : RS.Rf).alone.ask RS.Ou.none 3)).1 (({ ({ r with quiet := min (r.quiet + 1) (r.T : Int), left := r.left - 1 } : RS.Rf) with role := 2, who := (r.id : Int), leader := -1, left := (r.T : Int), term := r.term + 1 } : RS.Rf).alone.lead (({ ({ r with quiet := min (r.quiet + 1) (r.T : Int), left := r.left - 1 } : RS.Rf) with role := 2, who := (r.id : Int), leader := -1, left := (r.T : Int), term := r.term + 1 } : RS.Rf).alone.ask RS.Ou.none 3)).2) := by
 have hi7 := h.hi
 have hbt := hb.T2
 have hbl := hb.left
 have hbq := hb.quiet
 have hbb := hb.beat
 have hbl1 := hbl.1
 have hbl2 := hbl.2
 have hbq1 := hbq.1
 have hbq2 := hbq.2
 have hbb1 := hbb.1
 have hbb2 := hbb.2
 have Hb := zh hb
 have e1 : ((r.role : Int) == 3) = false := by simp; omega
 have e2 : (r.role == 3) = false := by simp; omega
 have e5 : IntKind.i64.wrap (r.quiet + 1) = r.quiet + 1 := IntWalk.i64_in _ (by omega)
 have e6 : decide (0 < r.left - 1) = false := by simp; omega
 have e7 : decide (1 < r.left) = false := by simp; omega
 have qza : ((r.role : Int) == 0) = false := by simp; omega
 have qzb : (r.role == 0) = false := by simp; omega
 have qya : ((r.role : Int) == 1) = true := by simp; omega
 have qyb : (r.role == 1) = true := by simp; omega
 have Hm9 := zh hM
 obtain ⟨tm, htm⟩ : ∃ y, y = r.term + 1 := ⟨_, rfl⟩
 have htm1 : IntKind.u64.wrap (tm : Int) = (tm : Int) := by have h1 := hb.term; have h2 := hb.hM; exact IntWalk.u64_in _ (by omega)
 have htm2 : (r.term : Int) + 1 = (tm : Int) := by omega
 have htl1 : decide (r.term < 18446744073709551615) = true := by have h1 := hb.term; have h2 := hb.hM; simp; omega
 have htl2 : decide ((r.term : Int) < 18446744073709551615) = true := by have h1 := hb.term; have h2 := hb.hM; simp; omega
 have Htm := zh htm
 have Hmo := zh hmo
 have Hmo2 := zh hmo2
 clear hr hbe htm hmo hmo2
 obtain ⟨w1, hw1⟩ : ∃ w1, w.alloc (.cells #[.bool false, .bool false, .int .u8 0, .int .u64 0, .int .u64 0, .int .u64 0, .int .u64 0, .int .u64 0, .bool false, .slice none 0 0, .slice none 0 0, .bool false, .int .u64 0, .slice none 0 0, .slice none 0 0, .slice none 0 0] 100) = w1 := ⟨_, rfl⟩
 have H1 := zh (h.mv (L := fun _ => False) (Mv.alloc own w (.cells #[.bool false, .bool false, .int .u8 0, .int .u64 0, .int .u64 0, .int .u64 0, .int .u64 0, .int .u64 0, .bool false, .slice none 0 0, .slice none 0 0, .bool false, .int .u64 0, .slice none 0 0, .slice none 0 0, .slice none 0 0] 100) 9) id)
 have HX1 := zh (Bx.new own w #[.bool false, .bool false, .int .u8 0, .int .u64 0, .int .u64 0, .int .u64 0, .int .u64 0, .int .u64 0, .bool false, .slice none 0 0, .slice none 0 0, .bool false, .int .u64 0, .slice none 0 0, .slice none 0 0, .slice none 0 0] 100)
 have HM1 := zh ((Mv.refl (fun l => l = i ∨ l = 7) own w).alloc7 (.cells #[.bool false, .bool false, .int .u8 0, .int .u64 0, .int .u64 0, .int .u64 0, .int .u64 0, .int .u64 0, .bool false, .slice none 0 0, .slice none 0 0, .bool false, .int .u64 0, .slice none 0 0, .slice none 0 0, .slice none 0 0] 100))
 rw [hw1] at H1 HX1 HM1
 have HW := zh hw1
 clear h hw1 hb hbl hbq hbb
 generalize ext own w.heap.size 9 = own1 at *
 generalize hq : w1.heap.size = q at *
 have Hbeg := zh (begin_w own1 i p g r w1 H1.out)
 rw [hq] at Hbeg
 have HN := zh (none_w own1 i p g r w1 H1.out)
 clear hq
 go_enter Try.func58, Try.ntmps58
 go_upto_region 1 with (fail)
 rw [HW.out]
 go_upto_region 4 with (first
  | (go_at_call 106; refine (HN.out).mono ?_; rintro e w2 ⟨rfl, rfl⟩)
  | (go_at_call 107; refine (Hbeg.out).mono ?_; rintro e w2 ⟨rfl, own2, h2, hm2⟩; have H2 := zh h2; have HX2 := zh (HX1.out.mv hm2 id); have HM2 := zh (HM1.out.trans (hm2.mono fun l e => e.elim)); clear h2 hm2))
 clear H1 HX1 HM1 HW HN Hbeg
 have hrl := H2.out.nd.crole
 have hp2 := H2.out.nd.cT
 have hp10 := H2.out.nd.cquiet
 have hf10 := H2.out.nd.frozen 10
 go_upto_region 10 with (fail)
 go_still_tail 14, (by kernel_rfl)
 change wpList _ _ _ _ _ w2.drew
 have HD := zh H2.out.drew
 have hp10' : w2.drew.cell? ⟨p, 10, none⟩ = some (.int .i64 r.quiet) := hp10
 have hf10' : w2.drew.frozen? ⟨p, 10, none⟩ = false := hf10
 have HXD := zh (HX2.out.mv (Mv.drew (fun _ => False) own2 w2) id)
 have HMD := zh (HM2.out.trans (Mv.drew (fun l => l = i ∨ l = 7) own2 w2))
 clear hrl hp2 hp10 hf10 H2 HX2 HM2
 generalize w2.drew = wd at *
 go_upto_region 11 with (fail)
 generalize hmq : (if (r.T : Int) < r.quiet + 1 then (r.T : Int) else r.quiet + 1) = mq
 have Hmq : Hid (mq = min (r.quiet + 1) (r.T : Int)) := zh (by rw [← hmq]; split <;> omega)
 clear hmq hp10' hf10'
 have H3 := zh (HD.out.setp 10 (.int .i64 mq) { r with quiet := mq } rfl rfl rfl rfl)
 have hm3 := Mv.set (L := fun l => l = i) (own := own2) (w := wd) (a := ⟨p, 10, none⟩) HD.out.nd.op (.int .i64 mq)
 have HX3 := zh (HXD.out.mv hm3 (by omega))
 have HM3 := zh (HMD.out.trans (hm3.mono fun l e => .inl e))
 clear hm3 HD HXD HMD
 generalize wd.setCell ⟨p, 10, none⟩ (.int .i64 mq) = w3 at *
 have hp9 : w3.cell? ⟨p, 9, none⟩ = some (.int .i64 r.left) := H3.out.nd.cleft
 have hf9 := H3.out.nd.frozen 9
 have h4 := H3.out.setp 9 (.int .i64 (r.left - 1)) { r with quiet := mq, left := r.left - 1 } rfl rfl rfl rfl
 rw [Hmq.out] at h4
 have H4 := zh h4
 have hm4 := Mv.set (L := fun l => l = i) (own := own2) (w := w3) (a := ⟨p, 9, none⟩) H3.out.nd.op (.int .i64 (r.left - 1))
 have HX4 := zh (HX3.out.mv hm4 (by omega))
 have HM4 := zh (HM3.out.trans (hm4.mono fun l e => .inl e))
 go_upto_region 12 with (fail)
 clear hp9 hf9 h4 hm4 H3 HX3 HM3
 generalize w3.setCell ⟨p, 9, none⟩ (.int .i64 (r.left - 1)) = w4 at *
 have hp9 : w4.cell? ⟨p, 9, none⟩ = some (.int .i64 (r.left - 1)) := H4.out.nd.cleft
 have Hnb3 := zh (show Nb (M + 1) ({ ({ r with quiet := min (r.quiet + 1) (r.T : Int), left := r.left - 1 } : RS.Rf) with role := 2, who := (r.id : Int), leader := -1, left := (r.T : Int), term := r.term + 1 } : RS.Rf) from ⟨by have := Hm9.out; omega, Hb.out.n7, Hb.out.id, Hb.out.T1, Hb.out.T2, by have := Hb.out.term; show r.term + 1 ≤ M + 1; omega, Nat.le_succ_of_le Hb.out.base, Nat.le_succ_of_le Hb.out.bt, Nat.le_succ_of_le Hb.out.len, fun e he => ⟨Nat.le_succ_of_le (Hb.out.es e he).1, (Hb.out.es e he).2⟩, Nat.le_succ_of_le Hb.out.commit, by show (2 : Nat) ≤ 3; decide, by show (-1 : Int) ≤ -1 ∧ (-1 : Int) ≤ 6; decide, by have h2 := Hb.out.T2; have h1 := Hb.out.T1; show -1 ≤ (r.T : Int) ∧ (r.T : Int) ≤ 50; omega, by have h2 := Hb.out.T2; have h1 := Hb.out.quiet; show 0 ≤ min (r.quiet + 1) (r.T : Int) ∧ min (r.quiet + 1) (r.T : Int) ≤ 50; omega, Hb.out.beat, by have h1 := Hb.out.id; have h2 := Hb.out.n7; show -1 ≤ (r.id : Int) ∧ (r.id : Int) ≤ 6; omega, Nat.le_succ_of_le Hb.out.round, fun q => Nat.le_succ_of_le (Hb.out.next q), fun q => Nat.le_succ_of_le (Hb.out.mt q)⟩)
 have hrl := H4.out.nd.crole
 have hp3 := H4.out.nd.cterm
 have Hmost := zh (most_w own2 i p g _ w4 H4.out.nd Hb.out.n7)
 rw [show ({ r with quiet := min (r.quiet + 1) (r.T : Int), left := r.left - 1 } : RS.Rf).most = true from Hmo.out] at Hmost
 go_upto_region 21 with (go_at_call 115; refine (Hmost.out).mono ?_; rintro e w5 ⟨rfl, hS5⟩; have H5 := zh (H4.out.mv (L := fun _ => False) (Mv.same0 hS5) id id); have HX5 := zh (HX4.out.mv (L := fun _ => False) (Mv.same0 hS5) id); have HM5 := zh (HM4.out.trans (Mv.same0 hS5)); have hp3 := hS5.cell hp3; clear hS5 hrl hp9)
 clear H4 HX4 HM4 Hmost hp3
 have hp1 := H5.out.nd.cid
 have hp2 := H5.out.nd.cT
 have c7 := H5.out.nd.crole
 have c4 := H5.out.nd.cwho
 have c8 := H5.out.nd.cleader
 have c9 := H5.out.nd.cleft
 have f7 := H5.out.nd.frozen 7
 have f4 := H5.out.nd.frozen 4
 have f8 := H5.out.nd.frozen 8
 have f9 := H5.out.nd.frozen 9
 have a1 : (w5.setCell ⟨p, 7, none⟩ (.int .u8 2)).drew.cell? ⟨p, 1, none⟩ = some (.int .i64 (r.id : Int)) := cell_off (by decide) hp1
 have a2 : (w5.setCell ⟨p, 7, none⟩ (.int .u8 2)).drew.cell? ⟨p, 2, none⟩ = some (.int .i64 (r.T : Int)) := cell_off (by decide) hp2
 have b1 : ((w5.setCell ⟨p, 7, none⟩ (.int .u8 2)).setCell ⟨p, 4, none⟩ (.int .i64 (r.id : Int))).drew.cell? ⟨p, 1, none⟩ = some (.int .i64 (r.id : Int)) := cell_off (by decide) a1
 have b2 : ((w5.setCell ⟨p, 7, none⟩ (.int .u8 2)).setCell ⟨p, 4, none⟩ (.int .i64 (r.id : Int))).drew.cell? ⟨p, 2, none⟩ = some (.int .i64 (r.T : Int)) := cell_off (by decide) a2
 have c1 : (((w5.setCell ⟨p, 7, none⟩ (.int .u8 2)).setCell ⟨p, 4, none⟩ (.int .i64 (r.id : Int))).setCell ⟨p, 8, none⟩ (.int .i64 (-1))).drew.cell? ⟨p, 1, none⟩ = some (.int .i64 (r.id : Int)) := cell_off (by decide) b1
 have c2 : (((w5.setCell ⟨p, 7, none⟩ (.int .u8 2)).setCell ⟨p, 4, none⟩ (.int .i64 (r.id : Int))).setCell ⟨p, 8, none⟩ (.int .i64 (-1))).drew.cell? ⟨p, 2, none⟩ = some (.int .i64 (r.T : Int)) := cell_off (by decide) b2
 have d1 : ((((w5.setCell ⟨p, 7, none⟩ (.int .u8 2)).setCell ⟨p, 4, none⟩ (.int .i64 (r.id : Int))).setCell ⟨p, 8, none⟩ (.int .i64 (-1))).setCell ⟨p, 9, none⟩ (.int .i64 (r.T : Int))).drew.cell? ⟨p, 1, none⟩ = some (.int .i64 (r.id : Int)) := cell_off (by decide) c1
 have d2 : ((((w5.setCell ⟨p, 7, none⟩ (.int .u8 2)).setCell ⟨p, 4, none⟩ (.int .i64 (r.id : Int))).setCell ⟨p, 8, none⟩ (.int .i64 (-1))).setCell ⟨p, 9, none⟩ (.int .i64 (r.T : Int))).drew.cell? ⟨p, 2, none⟩ = some (.int .i64 (r.T : Int)) := cell_off (by decide) c2
 go_region_held3 (fun w' => w'.cell? ⟨p, 1, none⟩ = some (.int .i64 (r.id : Int)) ∧ w'.cell? ⟨p, 2, none⟩ = some (.int .i64 (r.T : Int))) (go_keep) (fail)
 rename_i hHeld
 clear hHeld a1 a2 b1 b2 c1 c2 d1 d2 hp1 hp2 c7 c4 c8 c9 f7 f4 f8 f9
 have h6 := ((((H5.out.setp 7 (.int .u8 2) { ({ r with quiet := min (r.quiet + 1) (r.T : Int), left := r.left - 1 } : RS.Rf) with role := 2 } rfl rfl rfl rfl).setp 4 (.int .i64 (r.id : Int)) { ({ r with quiet := min (r.quiet + 1) (r.T : Int), left := r.left - 1 } : RS.Rf) with role := 2, who := (r.id : Int) } rfl rfl rfl rfl).setp 8 (.int .i64 (-1)) { ({ r with quiet := min (r.quiet + 1) (r.T : Int), left := r.left - 1 } : RS.Rf) with role := 2, who := (r.id : Int), leader := -1 } rfl rfl rfl rfl).setp 9 (.int .i64 (r.T : Int)) { ({ r with quiet := min (r.quiet + 1) (r.T : Int), left := r.left - 1 } : RS.Rf) with role := 2, who := (r.id : Int), leader := -1, left := (r.T : Int) } rfl rfl rfl rfl).drew
 have hm6 := ((((Mv.set (L := fun l => l = i) (own := own2) (w := w5) (a := ⟨p, 7, none⟩) H5.out.nd.op (.int .u8 2)).trans (Mv.set (L := fun l => l = i) (a := ⟨p, 4, none⟩) H5.out.nd.op (.int .i64 (r.id : Int)))).trans (Mv.set (L := fun l => l = i) (a := ⟨p, 8, none⟩) H5.out.nd.op (.int .i64 (-1)))).trans (Mv.set (L := fun l => l = i) (a := ⟨p, 9, none⟩) H5.out.nd.op (.int .i64 (r.T : Int)))).trans (Mv.drew _ _ _)
 have H6 := zh h6
 have HX6 := zh (HX5.out.mv hm6 (by omega))
 have HM6 := zh (HM5.out.trans (hm6.mono fun l e => .inl e))
 clear h6 hm6 H5 HX5 HM5
 generalize ((((w5.setCell ⟨p, 7, none⟩ (.int .u8 2)).setCell ⟨p, 4, none⟩ (.int .i64 (r.id : Int))).setCell ⟨p, 8, none⟩ (.int .i64 (-1))).setCell ⟨p, 9, none⟩ (.int .i64 (r.T : Int))).drew = w6 at *
 have hp3 : w6.cell? ⟨p, 3, none⟩ = some (.int .u64 (r.term : Int)) := H6.out.nd.cterm
 have hf3 := H6.out.nd.frozen 3
 go_upto_region 23 with (fail)
 have h7 := H6.out.setp 3 (.int .u64 (tm : Int)) ({ ({ r with quiet := min (r.quiet + 1) (r.T : Int), left := r.left - 1 } : RS.Rf) with role := 2, who := (r.id : Int), leader := -1, left := (r.T : Int), term := r.term + 1 } : RS.Rf) (by rw [Htm.out]; rfl) rfl rfl rfl
 have hm7 := Mv.set (L := fun l => l = i) (own := own2) (w := w6) (a := ⟨p, 3, none⟩) H6.out.nd.op (.int .u64 (tm : Int))
 have H7 := zh h7
 have HX7 := zh (HX6.out.mv hm7 (by omega))
 have HM7 := zh (HM6.out.trans (hm7.mono fun l e => .inl e))
 clear h7 hm7 hp3 hf3 H6 HX6 HM6
 generalize w6.setCell ⟨p, 3, none⟩ (.int .u64 (tm : Int)) = w7 at *
 have Hal := zh (alone_w own2 i p g ({ ({ r with quiet := min (r.quiet + 1) (r.T : Int), left := r.left - 1 } : RS.Rf) with role := 2, who := (r.id : Int), leader := -1, left := (r.T : Int), term := r.term + 1 } : RS.Rf) w7 H7.out.nd (by have h1 := Hb.out.id; have h2 := Hb.out.n7; show r.id < 7; omega))
 go_upto_region 24 with (go_at_call 113; refine (Hal.out).mono ?_; rintro e w8 ⟨⟨v, rfl⟩, h8, hm8⟩; have H8 := zh (H7.out.of_nd h8 hm8); have HX8 := zh (HX7.out.mv hm8 (by omega)); have HM8 := zh (HM7.out.trans (hm8.mono fun l e => .inl e)); clear h8 hm8)
 have Hask := zh (ask3_w own2 i p q g r.term r.who ({ ({ r with quiet := min (r.quiet + 1) (r.T : Int), left := r.left - 1 } : RS.Rf) with role := 2, who := (r.id : Int), leader := -1, left := (r.T : Int), term := r.term + 1 } : RS.Rf).alone _ RS.Ou.none w8 H8.out (M + 1) (Nb.alone Hnb3.out) (by decide))
 go_upto_region 25 with (go_at_call 114; refine (Hask.out).mono ?_; rintro e w9' ⟨⟨v, rfl⟩, own9', x9', h9', hA9, hm9'⟩; have H9 := zh h9'; have HA9 := zh hA9; have HX9' := zh (HX8.out.mv hm9' (by decide)); have HM9' := zh (HM8.out.trans (hm9'.mono fun l e => .inr e)); clear h9' hA9 hm9')
 clear H7 HX7 HM7 H8 HX8 HM8 Hal Hask
 have Hmost2 := zh (most_w own9' i p g _ w9' H9.out.nd (show r.n ≤ 7 from Hb.out.n7))
 rw [Hmo2.out] at Hmost2
 go_upto_region 26 with (go_at_call 115; refine (Hmost2.out).mono ?_; rintro e wa ⟨rfl, hSa⟩; have HA := zh (H9.out.mv (L := fun _ => False) (Mv.same0 hSa) id id); have HXA := zh (HX9'.out.mv (L := fun _ => False) (Mv.same0 hSa) id); have HMA := zh (HM9'.out.trans (Mv.same0 hSa)); clear hSa)
 have Hld := zh (lead_w own9' i p q g r.term r.who ({ ({ r with quiet := min (r.quiet + 1) (r.T : Int), left := r.left - 1 } : RS.Rf) with role := 2, who := (r.id : Int), leader := -1, left := (r.T : Int), term := r.term + 1 } : RS.Rf).alone x9' (({ ({ r with quiet := min (r.quiet + 1) (r.T : Int), left := r.left - 1 } : RS.Rf) with role := 2, who := (r.id : Int), leader := -1, left := (r.T : Int), term := r.term + 1 } : RS.Rf).alone.ask RS.Ou.none 3) wa HA.out (M + 1) (Nb.alone Hnb3.out) (by have := Hm9.out; omega) HA9.out.1 HA9.out.2.1 HA9.out.2.2 (ask_add _ _ _) (by have h := ask_len ({ ({ r with quiet := min (r.quiet + 1) (r.T : Int), left := r.left - 1 } : RS.Rf) with role := 2, who := (r.id : Int), leader := -1, left := (r.T : Int), term := r.term + 1 } : RS.Rf).alone RS.Ou.none 3; have h2 := Hb.out.n7; have h3 : ({ ({ r with quiet := min (r.quiet + 1) (r.T : Int), left := r.left - 1 } : RS.Rf) with role := 2, who := (r.id : Int), leader := -1, left := (r.T : Int), term := r.term + 1 } : RS.Rf).alone.n = r.n := rfl; rw [h3] at h; have h4 : RS.Ou.none.send.length = 0 := rfl; omega) (by rw [ask_need]; decide))
 go_upto_region 27 with (go_at_call 116; refine (Hld.out).mono ?_; rintro e wb ⟨⟨v, rfl⟩, ownb, xb, hb2, hxb, hmb⟩; have HB := zh hb2; have HXB := zh (HXA.out.mv hmb (by omega)); have HMB := zh (HMA.out.trans hmb); clear hb2 hxb hmb)
 clear HA HXA HMA Hld H9 HX9' HM9' Hmost2
 have HDn := zh (nddone_w _ i p q g r.term r.who _ _ _ _ HB.out)
 go_wp2_with (first
  | (refine wpList_store_rowTo rfl 100 (.tmp 4) (.tmp 149) rfl rfl _ (Ov.cells x9) rfl rfl 100 _ HZ.out (show _ = some 16 by kernel_rfl) rfl (ov_one x9) ?_)
  | (go_at_call 111; refine (HDn.out).mono ?_; rintro e w9 ⟨x9, own9, g9, rfl, hn9, ho9, hm9⟩; have HN9 := zh hn9; have HO9 := zh ho9; have HM9 := zh (HMB.out.trans (hm9.mono fun l e => .inr e)); have HX9 := zh (HXB.out.mv hm9 (by decide)); have HZ := zh HX9.out.row; clear hn9 ho9 hm9))
 exact bodyPost_ret (results_cell_row rfl _ _ w.heap.size 100 _ _ _ rfl (setRow_heap _ _ _ _ _ _ HZ.out) Try.underlying100 rfl (show _ = some 16 by kernel_rfl)) rfl (Told.fin HN9.out HO9.out HM9.out HX9.out (Nat.le_refl _))
end
end Go.Proofs.Yteellfgiejnigaa
