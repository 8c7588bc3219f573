/- RaftSafe: G26. -/
import Derived.Test.YteellfgiejnigaaQtA00
import Derived.Test.YteellfgiejnigaaQtA25
import Derived.BigQuiet
import Derived.Deep.QuietTactic
namespace Go.Proofs.Yteellfgiejnigaa
open Go.ChangeShapes Go.WideShapes Go.ChangeAt Go.RowKit
set_option linter.unusedVariables false
section
variable {own own' : Own} {w w' : World} {i p q g t0 N : Nat} {who0 : Int} {r : RS.Rf} {x : Ov} {o : RS.Ou} {M : Nat}
theorem better_same (t i ot oi : Nat) (w : World) : Calls Try.prog 13 #[.int .u64 (t : Int), .int .u64 (i : Int), .int .u64 (ot : Int), .int .u64 (oi : Int)] w fun e w' => e = .returned (.bool (better t i ot oi)) ∧ w' = w := by
 unfold better
 by_cases h1 : ot < t
 · have e1 : decide (ot < t) = true := by simp [h1]
   go_enter Try.func13, Try.ntmps13
   go_wp2
   go_ret
   exact ⟨by rw [e1]; rfl, rfl⟩
 · have e1 : decide (ot < t) = false := by simp; omega
   by_cases h2 : t = ot
   · subst h2
     have e2 : (t == t) = true := by simp
     go_enter Try.func13, Try.ntmps13
     go_wp2
     go_ret
     exact ⟨by simp, rfl⟩
   · have e2 : decide (t = ot) = false := by simp [h2]
     have e3 : (t == ot) = false := by simp [h2]
     go_enter Try.func13, Try.ntmps13
     go_wp2
     go_ret
     exact ⟨by rw [e1, e2]; rfl, rfl⟩
theorem bet_same {t i ot oi : Nat} {b : Bool} (h : better t i ot oi = b) (w : World) : Calls Try.prog 13 #[.int .u64 (t : Int), .int .u64 (i : Int), .int .u64 (ot : Int), .int .u64 (oi : Int)] w fun e w' => e = .returned (.bool b) ∧ w' = w := by rw [← h]; exact better_same t i ot oi w
theorem Mv.drewN {L : Nat → Prop} (own : Own) (w : World) (n : Nat) : Mv L own w own (w.drewN n) := ⟨⟨rfl, rfl, rfl, Nat.le_refl _, fun _ _ _ => rfl⟩, fun _ _ => rfl⟩
theorem rank_yes (r : RS.Rf) (f : Nat) (nt : RS.Nt) (d : Nat) (h : r.rankYes f nt false = true) : r.rank f nt false d = (r.follow d, (r.follow d).put RS.Ou.none f { RS.Rf.nt 2 with round := nt.round, yes := true }) := by
 unfold RS.Rf.rank; rw [h]; rfl
theorem rank_no (r : RS.Rf) (f : Nat) (nt : RS.Nt) (old : Bool) (d : Nat) (h : r.rankYes f nt old = false) (h3 : (!old && decide (r.role = 3)) = false) : r.rank f nt old d = (r, r.put RS.Ou.none f { RS.Rf.nt 2 with round := nt.round, yes := false }) := by
 unfold RS.Rf.rank; rw [h]; dsimp only; rw [if_neg (by decide), h3]; rfl
theorem rank_up (r : RS.Rf) (f : Nat) (nt : RS.Nt) (d : Nat) (h : r.rankYes f nt false = false) (h3 : r.role = 3) : r.rank f nt false d = (r, r.update (r.put RS.Ou.none f { RS.Rf.nt 2 with round := nt.round, yes := false }) f) := by
 unfold RS.Rf.rank; rw [h]; dsimp only; rw [if_neg (by decide), h3]; rfl
set_option maxRecDepth 100000 in
set_option maxHeartbeats 8000000 in
theorem rank_w (own : Own) (i p q g t0 : Nat) (who0 : Int) (r : RS.Rf) (x : Ov) (w : World) (h : StAt own w i p q g t0 who0 r x RS.Ou.none) (M : Nat) (hb : Nb M r) (f : Nat) (hf : f < 7) (nt : RS.Nt) (pl pd : Option Addr) (nl cl nd cd : Nat) (d : Nat) (hd : d < 2 ^ 64) (old : Bool) :
 Calls Try.prog 118 #[.pointer (some ⟨q, 0, none⟩), .int .i64 (f : Int), .agg #[.int .u8 (nt.kind : Int), .int .u64 (nt.term : Int), .int .u64 (nt.round : Int), .int .u64 (nt.index : Int), .int .u64 (nt.at_ : Int), .int .u64 (nt.commit : Int), .bool nt.yes, .slice pl nl cl, .slice pd nd cd], .bool old, .int .u64 (d : Int)] w fun e w' => (∃ v, e = .returned v) ∧ Stp own w (fun l => l = i ∨ l = 7) i p q g t0 who0 (r.rank f nt old d).1 x (r.rank f nt old d).2 w' := by
 have hi7 := h.nd.hi
 have hT := hb.T2
 have Hb := zh hb
 obtain ⟨w1, hw1⟩ : ∃ w1, w.alloc (.cells #[.int .u8 (nt.kind : Int), .int .u64 (nt.term : Int), .int .u64 (nt.round : Int), .int .u64 (nt.index : Int), .int .u64 (nt.at_ : Int), .int .u64 (nt.commit : Int), .bool nt.yes, .slice pl nl cl, .slice pd nd cd] 31) = w1 := ⟨_, rfl⟩
 have H1 := zh (h.alloc (.cells #[.int .u8 (nt.kind : Int), .int .u64 (nt.term : Int), .int .u64 (nt.round : Int), .int .u64 (nt.index : Int), .int .u64 (nt.at_ : Int), .int .u64 (nt.commit : Int), .bool nt.yes, .slice pl nl cl, .slice pd nd cd] 31))
 have HX1 := zh (Bx.new own w #[.int .u8 (nt.kind : Int), .int .u64 (nt.term : Int), .int .u64 (nt.round : Int), .int .u64 (nt.index : Int), .int .u64 (nt.at_ : Int), .int .u64 (nt.commit : Int), .bool nt.yes, .slice pl nl cl, .slice pd nd cd] 31)
 have HM1 := zh ((Mv.refl (fun l => l = i ∨ l = 7) own w).alloc7 (.cells #[.int .u8 (nt.kind : Int), .int .u64 (nt.term : Int), .int .u64 (nt.round : Int), .int .u64 (nt.index : Int), .int .u64 (nt.at_ : Int), .int .u64 (nt.commit : Int), .bool nt.yes, .slice pl nl cl, .slice pd nd cd] 31))
 have Hlen := zh (show r.es.length ≤ 1000000 by have := hb.len; have := hb.hM; omega)
 rw [hw1] at H1 HX1 HM1
 have HW := zh hw1
 clear h hw1 hb
 generalize ext own w.heap.size 9 = own1 at *
 have Htip := zh (H1.out.nd.tk.elim fun v htk => tip_w _ g r.base r.bt v r.es w1 htk Hlen.out)
 obtain ⟨last, hlast⟩ : ∃ n, n = r.base + r.es.length := ⟨_, rfl⟩
 obtain ⟨tip, htip⟩ : ∃ n, n = tipT r.bt r.es := ⟨_, rfl⟩
 rw [← hlast, ← htip] at Htip
 have Hl := zh (show last = r.last from hlast)
 have Ht := zh (show tip = r.tipt from htip)
 clear hlast htip
 go_enter Try.func118, Try.ntmps118
 go_upto_region 1 with (fail)
 rw [HW.out]
 have hq0 := H1.out.q0
 have hp5 := H1.out.nd.ctk
 go_upto_region 2 with (go_at_call 23; refine (Htip.out).mono ?_; rintro e w2 ⟨rfl, hB⟩; have H2 := zh (H1.out.below hB); have HX2 := zh (HX1.out.below hB); have HM2 := zh (HM1.out.below hB); clear hB hq0 hp5; have hq0 := H2.out.q0; have hp1 := H2.out.nd.cid; have hp2 := H2.out.nd.cT; have hp7 := H2.out.nd.crole; have hp8 := H2.out.nd.cleader; have hp10 := H2.out.nd.cquiet; have n2 : w2.cell? ⟨w.heap.size, 2, none⟩ = some (.int .u64 (nt.round : Int)) := HX2.out.c 2; have n3 : w2.cell? ⟨w.heap.size, 3, none⟩ = some (.int .u64 (nt.index : Int)) := HX2.out.c 3; have n4 : w2.cell? ⟨w.heap.size, 4, none⟩ = some (.int .u64 (nt.at_ : Int)) := HX2.out.c 4)
 clear H1 HX1 HM1 Htip HW
 generalize ext own1 w1.heap.size 9 = own2 at *
 dsimp only [List.append_eq, List.cons_append, List.nil_append]
 refine wp_region_quiet_lit (by kernel_rfl) (by kernel_rfl) ?_
 cases old
 · cases bt0 : RS.Rf.better nt.at_ nt.index r.tipt r.last
   · cases at0 : decide (nt.at_ = r.tipt)
     · cases r30 : decide (r.role = 3)
       · have hv : r.rankYes f nt false = false := by
          unfold RS.Rf.rankYes
          rw [bt0, at0]
          rfl
         have HV := zh (rank_no r f nt false d hv (by rw [r30]; rfl))
         clear hv
         have Hbt := zh (show better nt.at_ nt.index tip last = false by rw [Hl.out, Ht.out]; exact bt0)
         have f1 : (nt.at_ == tip) = false := by rw [Ht.out]; simpa using at0
         have f2 : ((nt.at_ : Int) == (tip : Int)) = false := by have := at0; rw [Ht.out]; simp at this ⊢; omega
         have f3 : (r.role == 3) = false := by simpa using r30
         have f4 : ((r.role : Int) == 3) = false := by have := r30; simp at this ⊢; omega
         clear bt0 at0
         repeat (go_big_quiet_step ((go_at_call 13; exact Calls.quiet_of_same (bet_same Hbt.out _))))
         refine wpQuiet_nil ?_
         intro W3 hw3
         obtain ⟨nq, rfl⟩ := hw3
         clear hq0 hp1 hp2 hp7 hp8 hp10 n2 n3 n4
         have H3 := zh (H2.out.mv (L := fun _ => False) (Mv.drewN own2 w2 nq) id id)
         have HX3 := zh (HX2.out.mv (L := fun _ => False) (Mv.drewN own2 w2 nq) id)
         have HM3 := zh (HM2.out.trans (Mv.drewN own2 w2 nq))
         clear H2 HX2 HM2
         generalize w2.drewN nq = w3 at *
         go_upto_region 5 with (fail)
         have n2 : w3.cell? ⟨w.heap.size, 2, none⟩ = some (.int .u64 (nt.round : Int)) := HX3.out.c 2
         have Hs := zh (send_w _ i p q g t0 who0 r x RS.Ou.none w3 H3.out f { RS.Rf.nt 2 with round := nt.round, yes := false } 2 0 (nt.round : Int) 0 0 0 false none 0 0 none 0 0 rfl rfl rfl rfl rfl rfl (EsR.nil _ _) (dat0 _ _) (Nat.zero_le _))
         go_wp2_with (go_at_call 120; refine (Hs.out).mono ?_; rintro e w9 ⟨⟨v, rfl⟩, own9, x9, h9, a1, a2, a3, m9⟩; have H9 := zh h9; have HA := zh (show Adds x x9 from ⟨a1, a2, a3⟩); have HM9 := zh (HM3.out.trans (m9.mono fun l e => .inr e)); clear h9 a1 a2 a3 m9; clear n2; have hq0 := H9.out.q0; have hr9 := H9.out.nd.crole)
         go_end0
         rw [HV.out]
         exact ⟨⟨_, rfl⟩, own9, x9, H9.out, HA.out, HM9.out⟩
       · have hv : r.rankYes f nt false = false := by
          unfold RS.Rf.rankYes
          rw [bt0, at0]
          rfl
         have HV := zh (rank_up r f nt d hv (by simpa using r30))
         clear hv
         have Hbt := zh (show better nt.at_ nt.index tip last = false by rw [Hl.out, Ht.out]; exact bt0)
         have f1 : (nt.at_ == tip) = false := by rw [Ht.out]; simpa using at0
         have f2 : ((nt.at_ : Int) == (tip : Int)) = false := by have := at0; rw [Ht.out]; simp at this ⊢; omega
         have f3 : (r.role == 3) = true := by simpa using r30
         have f4 : ((r.role : Int) == 3) = true := by have := r30; simp at this ⊢; omega
         clear bt0 at0
         repeat (go_big_quiet_step ((go_at_call 13; exact Calls.quiet_of_same (bet_same Hbt.out _))))
         refine wpQuiet_nil ?_
         intro W3 hw3
         obtain ⟨nq, rfl⟩ := hw3
         clear hq0 hp1 hp2 hp7 hp8 hp10 n2 n3 n4
         have H3 := zh (H2.out.mv (L := fun _ => False) (Mv.drewN own2 w2 nq) id id)
         have HX3 := zh (HX2.out.mv (L := fun _ => False) (Mv.drewN own2 w2 nq) id)
         have HM3 := zh (HM2.out.trans (Mv.drewN own2 w2 nq))
         clear H2 HX2 HM2
         generalize w2.drewN nq = w3 at *
         go_upto_region 5 with (fail)
         have n2 : w3.cell? ⟨w.heap.size, 2, none⟩ = some (.int .u64 (nt.round : Int)) := HX3.out.c 2
         have Hs := zh (send_w _ i p q g t0 who0 r x RS.Ou.none w3 H3.out f { RS.Rf.nt 2 with round := nt.round, yes := false } 2 0 (nt.round : Int) 0 0 0 false none 0 0 none 0 0 rfl rfl rfl rfl rfl rfl (EsR.nil _ _) (dat0 _ _) (Nat.zero_le _))
         go_upto_region 7 with (go_at_call 120; refine (Hs.out).mono ?_; rintro e w9 ⟨⟨v, rfl⟩, own9, x9, h9, a1, a2, a3, m9⟩; have H9 := zh h9; have HA := zh (show Adds x x9 from ⟨a1, a2, a3⟩); have HM9 := zh (HM3.out.trans (m9.mono fun l e => .inr e)); clear h9 a1 a2 a3 m9; clear n2; have hq0 := H9.out.q0; have hr9 := H9.out.nd.crole)
         have Hu := zh (update_w own9 i p q g t0 who0 r x9 (r.put RS.Ou.none f { RS.Rf.nt 2 with round := nt.round, yes := false }) w9 H9.out M Hb.out f hf (by show 1 ≤ 1000; decide) (Nat.zero_le _))
         go_wp2_with (go_at_call 130; refine (Hu.out).mono ?_; rintro e w10 ⟨⟨v, rfl⟩, own10, x10, h10, a10, m10⟩; have H10 := zh h10; have HA10 := zh (HA.out.trans a10); have HM10 := zh (HM9.out.trans (m10.mono fun l e => .inr e)); clear h10 a10 m10)
         go_end0
         rw [HV.out]
         exact ⟨⟨_, rfl⟩, own10, x10, H10.out, HA10.out, HM10.out⟩
     · cases ix0 : decide (nt.index = r.last)
       · cases r30 : decide (r.role = 3)
         · have hv : r.rankYes f nt false = false := by
            unfold RS.Rf.rankYes
            rw [bt0, at0, ix0]
            rfl
           have HV := zh (rank_no r f nt false d hv (by rw [r30]; rfl))
           clear hv
           have Hbt := zh (show better nt.at_ nt.index tip last = false by rw [Hl.out, Ht.out]; exact bt0)
           have f1 : (nt.at_ == tip) = true := by rw [Ht.out]; simpa using at0
           have f2 : ((nt.at_ : Int) == (tip : Int)) = true := by have := at0; rw [Ht.out]; simp at this ⊢; omega
           have f3 : (nt.index == last) = false := by rw [Hl.out]; simpa using ix0
           have f4 : ((nt.index : Int) == (last : Int)) = false := by have := ix0; rw [Hl.out]; simp at this ⊢; omega
           have f5 : (r.role == 3) = false := by simpa using r30
           have f6 : ((r.role : Int) == 3) = false := by have := r30; simp at this ⊢; omega
           clear bt0 at0 ix0
           repeat (go_big_quiet_step ((go_at_call 13; exact Calls.quiet_of_same (bet_same Hbt.out _))))
           refine wpQuiet_nil ?_
           intro W3 hw3
           obtain ⟨nq, rfl⟩ := hw3
           clear hq0 hp1 hp2 hp7 hp8 hp10 n2 n3 n4
           have H3 := zh (H2.out.mv (L := fun _ => False) (Mv.drewN own2 w2 nq) id id)
           have HX3 := zh (HX2.out.mv (L := fun _ => False) (Mv.drewN own2 w2 nq) id)
           have HM3 := zh (HM2.out.trans (Mv.drewN own2 w2 nq))
           clear H2 HX2 HM2
           generalize w2.drewN nq = w3 at *
           go_upto_region 5 with (fail)
           have n2 : w3.cell? ⟨w.heap.size, 2, none⟩ = some (.int .u64 (nt.round : Int)) := HX3.out.c 2
           have Hs := zh (send_w _ i p q g t0 who0 r x RS.Ou.none w3 H3.out f { RS.Rf.nt 2 with round := nt.round, yes := false } 2 0 (nt.round : Int) 0 0 0 false none 0 0 none 0 0 rfl rfl rfl rfl rfl rfl (EsR.nil _ _) (dat0 _ _) (Nat.zero_le _))
           go_wp2_with (go_at_call 120; refine (Hs.out).mono ?_; rintro e w9 ⟨⟨v, rfl⟩, own9, x9, h9, a1, a2, a3, m9⟩; have H9 := zh h9; have HA := zh (show Adds x x9 from ⟨a1, a2, a3⟩); have HM9 := zh (HM3.out.trans (m9.mono fun l e => .inr e)); clear h9 a1 a2 a3 m9; clear n2; have hq0 := H9.out.q0; have hr9 := H9.out.nd.crole)
           go_end0
           rw [HV.out]
           exact ⟨⟨_, rfl⟩, own9, x9, H9.out, HA.out, HM9.out⟩
         · have hv : r.rankYes f nt false = false := by
            unfold RS.Rf.rankYes
            rw [bt0, at0, ix0]
            rfl
           have HV := zh (rank_up r f nt d hv (by simpa using r30))
           clear hv
           have Hbt := zh (show better nt.at_ nt.index tip last = false by rw [Hl.out, Ht.out]; exact bt0)
           have f1 : (nt.at_ == tip) = true := by rw [Ht.out]; simpa using at0
           have f2 : ((nt.at_ : Int) == (tip : Int)) = true := by have := at0; rw [Ht.out]; simp at this ⊢; omega
           have f3 : (nt.index == last) = false := by rw [Hl.out]; simpa using ix0
           have f4 : ((nt.index : Int) == (last : Int)) = false := by have := ix0; rw [Hl.out]; simp at this ⊢; omega
           have f5 : (r.role == 3) = true := by simpa using r30
           have f6 : ((r.role : Int) == 3) = true := by have := r30; simp at this ⊢; omega
           clear bt0 at0 ix0
           repeat (go_big_quiet_step ((go_at_call 13; exact Calls.quiet_of_same (bet_same Hbt.out _))))
           refine wpQuiet_nil ?_
           intro W3 hw3
           obtain ⟨nq, rfl⟩ := hw3
           clear hq0 hp1 hp2 hp7 hp8 hp10 n2 n3 n4
           have H3 := zh (H2.out.mv (L := fun _ => False) (Mv.drewN own2 w2 nq) id id)
           have HX3 := zh (HX2.out.mv (L := fun _ => False) (Mv.drewN own2 w2 nq) id)
           have HM3 := zh (HM2.out.trans (Mv.drewN own2 w2 nq))
           clear H2 HX2 HM2
           generalize w2.drewN nq = w3 at *
           go_upto_region 5 with (fail)
           have n2 : w3.cell? ⟨w.heap.size, 2, none⟩ = some (.int .u64 (nt.round : Int)) := HX3.out.c 2
           have Hs := zh (send_w _ i p q g t0 who0 r x RS.Ou.none w3 H3.out f { RS.Rf.nt 2 with round := nt.round, yes := false } 2 0 (nt.round : Int) 0 0 0 false none 0 0 none 0 0 rfl rfl rfl rfl rfl rfl (EsR.nil _ _) (dat0 _ _) (Nat.zero_le _))
           go_upto_region 7 with (go_at_call 120; refine (Hs.out).mono ?_; rintro e w9 ⟨⟨v, rfl⟩, own9, x9, h9, a1, a2, a3, m9⟩; have H9 := zh h9; have HA := zh (show Adds x x9 from ⟨a1, a2, a3⟩); have HM9 := zh (HM3.out.trans (m9.mono fun l e => .inr e)); clear h9 a1 a2 a3 m9; clear n2; have hq0 := H9.out.q0; have hr9 := H9.out.nd.crole)
           have Hu := zh (update_w own9 i p q g t0 who0 r x9 (r.put RS.Ou.none f { RS.Rf.nt 2 with round := nt.round, yes := false }) w9 H9.out M Hb.out f hf (by show 1 ≤ 1000; decide) (Nat.zero_le _))
           go_wp2_with (go_at_call 130; refine (Hu.out).mono ?_; rintro e w10 ⟨⟨v, rfl⟩, own10, x10, h10, a10, m10⟩; have H10 := zh h10; have HA10 := zh (HA.out.trans a10); have HM10 := zh (HM9.out.trans (m10.mono fun l e => .inr e)); clear h10 a10 m10)
           go_end0
           rw [HV.out]
           exact ⟨⟨_, rfl⟩, own10, x10, H10.out, HA10.out, HM10.out⟩
       · cases id0 : decide (f < r.id)
         · cases r30 : decide (r.role = 3)
           · have hv : r.rankYes f nt false = false := by
              unfold RS.Rf.rankYes
              rw [bt0, at0, ix0, id0]
              rfl
             have HV := zh (rank_no r f nt false d hv (by rw [r30]; rfl))
             clear hv
             have Hbt := zh (show better nt.at_ nt.index tip last = false by rw [Hl.out, Ht.out]; exact bt0)
             have f1 : (nt.at_ == tip) = true := by rw [Ht.out]; simpa using at0
             have f2 : ((nt.at_ : Int) == (tip : Int)) = true := by have := at0; rw [Ht.out]; simp at this ⊢; omega
             have f3 : (nt.index == last) = true := by rw [Hl.out]; simpa using ix0
             have f4 : ((nt.index : Int) == (last : Int)) = true := by have := ix0; rw [Hl.out]; simp at this ⊢; omega
             have f5 : decide ((f : Int) < (r.id : Int)) = false := by simpa using id0
             have f6 : (r.role == 3) = false := by simpa using r30
             have f7 : ((r.role : Int) == 3) = false := by have := r30; simp at this ⊢; omega
             clear bt0 at0 ix0
             repeat (go_big_quiet_step ((go_at_call 13; exact Calls.quiet_of_same (bet_same Hbt.out _))))
             refine wpQuiet_nil ?_
             intro W3 hw3
             obtain ⟨nq, rfl⟩ := hw3
             clear hq0 hp1 hp2 hp7 hp8 hp10 n2 n3 n4
             have H3 := zh (H2.out.mv (L := fun _ => False) (Mv.drewN own2 w2 nq) id id)
             have HX3 := zh (HX2.out.mv (L := fun _ => False) (Mv.drewN own2 w2 nq) id)
             have HM3 := zh (HM2.out.trans (Mv.drewN own2 w2 nq))
             clear H2 HX2 HM2
             generalize w2.drewN nq = w3 at *
             go_upto_region 5 with (fail)
             have n2 : w3.cell? ⟨w.heap.size, 2, none⟩ = some (.int .u64 (nt.round : Int)) := HX3.out.c 2
             have Hs := zh (send_w _ i p q g t0 who0 r x RS.Ou.none w3 H3.out f { RS.Rf.nt 2 with round := nt.round, yes := false } 2 0 (nt.round : Int) 0 0 0 false none 0 0 none 0 0 rfl rfl rfl rfl rfl rfl (EsR.nil _ _) (dat0 _ _) (Nat.zero_le _))
             go_wp2_with (go_at_call 120; refine (Hs.out).mono ?_; rintro e w9 ⟨⟨v, rfl⟩, own9, x9, h9, a1, a2, a3, m9⟩; have H9 := zh h9; have HA := zh (show Adds x x9 from ⟨a1, a2, a3⟩); have HM9 := zh (HM3.out.trans (m9.mono fun l e => .inr e)); clear h9 a1 a2 a3 m9; clear n2; have hq0 := H9.out.q0; have hr9 := H9.out.nd.crole)
             go_end0
             rw [HV.out]
             exact ⟨⟨_, rfl⟩, own9, x9, H9.out, HA.out, HM9.out⟩
           · have hv : r.rankYes f nt false = false := by
              unfold RS.Rf.rankYes
              rw [bt0, at0, ix0, id0]
              rfl
             have HV := zh (rank_up r f nt d hv (by simpa using r30))
             clear hv
             have Hbt := zh (show better nt.at_ nt.index tip last = false by rw [Hl.out, Ht.out]; exact bt0)
             have f1 : (nt.at_ == tip) = true := by rw [Ht.out]; simpa using at0
             have f2 : ((nt.at_ : Int) == (tip : Int)) = true := by have := at0; rw [Ht.out]; simp at this ⊢; omega
             have f3 : (nt.index == last) = true := by rw [Hl.out]; simpa using ix0
             have f4 : ((nt.index : Int) == (last : Int)) = true := by have := ix0; rw [Hl.out]; simp at this ⊢; omega
             have f5 : decide ((f : Int) < (r.id : Int)) = false := by simpa using id0
             have f6 : (r.role == 3) = true := by simpa using r30
             have f7 : ((r.role : Int) == 3) = true := by have := r30; simp at this ⊢; omega
             clear bt0 at0 ix0
             repeat (go_big_quiet_step ((go_at_call 13; exact Calls.quiet_of_same (bet_same Hbt.out _))))
             refine wpQuiet_nil ?_
             intro W3 hw3
             obtain ⟨nq, rfl⟩ := hw3
             clear hq0 hp1 hp2 hp7 hp8 hp10 n2 n3 n4
             have H3 := zh (H2.out.mv (L := fun _ => False) (Mv.drewN own2 w2 nq) id id)
             have HX3 := zh (HX2.out.mv (L := fun _ => False) (Mv.drewN own2 w2 nq) id)
             have HM3 := zh (HM2.out.trans (Mv.drewN own2 w2 nq))
             clear H2 HX2 HM2
             generalize w2.drewN nq = w3 at *
             go_upto_region 5 with (fail)
             have n2 : w3.cell? ⟨w.heap.size, 2, none⟩ = some (.int .u64 (nt.round : Int)) := HX3.out.c 2
             have Hs := zh (send_w _ i p q g t0 who0 r x RS.Ou.none w3 H3.out f { RS.Rf.nt 2 with round := nt.round, yes := false } 2 0 (nt.round : Int) 0 0 0 false none 0 0 none 0 0 rfl rfl rfl rfl rfl rfl (EsR.nil _ _) (dat0 _ _) (Nat.zero_le _))
             go_upto_region 7 with (go_at_call 120; refine (Hs.out).mono ?_; rintro e w9 ⟨⟨v, rfl⟩, own9, x9, h9, a1, a2, a3, m9⟩; have H9 := zh h9; have HA := zh (show Adds x x9 from ⟨a1, a2, a3⟩); have HM9 := zh (HM3.out.trans (m9.mono fun l e => .inr e)); clear h9 a1 a2 a3 m9; clear n2; have hq0 := H9.out.q0; have hr9 := H9.out.nd.crole)
             have Hu := zh (update_w own9 i p q g t0 who0 r x9 (r.put RS.Ou.none f { RS.Rf.nt 2 with round := nt.round, yes := false }) w9 H9.out M Hb.out f hf (by show 1 ≤ 1000; decide) (Nat.zero_le _))
             go_wp2_with (go_at_call 130; refine (Hu.out).mono ?_; rintro e w10 ⟨⟨v, rfl⟩, own10, x10, h10, a10, m10⟩; have H10 := zh h10; have HA10 := zh (HA.out.trans a10); have HM10 := zh (HM9.out.trans (m10.mono fun l e => .inr e)); clear h10 a10 m10)
             go_end0
             rw [HV.out]
             exact ⟨⟨_, rfl⟩, own10, x10, H10.out, HA10.out, HM10.out⟩
         · cases ro0 : decide (r.role ≤ 1)
           · cases r30 : decide (r.role = 3)
             · have hv : r.rankYes f nt false = false := by
                unfold RS.Rf.rankYes
                rw [bt0, at0, ix0, id0, ro0]
                rfl
               have HV := zh (rank_no r f nt false d hv (by rw [r30]; rfl))
               clear hv
               have Hbt := zh (show better nt.at_ nt.index tip last = false by rw [Hl.out, Ht.out]; exact bt0)
               have f1 : (nt.at_ == tip) = true := by rw [Ht.out]; simpa using at0
               have f2 : ((nt.at_ : Int) == (tip : Int)) = true := by have := at0; rw [Ht.out]; simp at this ⊢; omega
               have f3 : (nt.index == last) = true := by rw [Hl.out]; simpa using ix0
               have f4 : ((nt.index : Int) == (last : Int)) = true := by have := ix0; rw [Hl.out]; simp at this ⊢; omega
               have f5 : decide ((f : Int) < (r.id : Int)) = true := by simpa using id0
               have f6 : decide ((r.role : Int) ≤ 1) = false := by have := ro0; simp at this ⊢; omega
               have f7 : (r.role == 3) = false := by simpa using r30
               have f8 : ((r.role : Int) == 3) = false := by have := r30; simp at this ⊢; omega
               clear bt0 at0 ix0
               repeat (go_big_quiet_step ((go_at_call 13; exact Calls.quiet_of_same (bet_same Hbt.out _))))
               refine wpQuiet_nil ?_
               intro W3 hw3
               obtain ⟨nq, rfl⟩ := hw3
               clear hq0 hp1 hp2 hp7 hp8 hp10 n2 n3 n4
               have H3 := zh (H2.out.mv (L := fun _ => False) (Mv.drewN own2 w2 nq) id id)
               have HX3 := zh (HX2.out.mv (L := fun _ => False) (Mv.drewN own2 w2 nq) id)
               have HM3 := zh (HM2.out.trans (Mv.drewN own2 w2 nq))
               clear H2 HX2 HM2
               generalize w2.drewN nq = w3 at *
               go_upto_region 5 with (fail)
               have n2 : w3.cell? ⟨w.heap.size, 2, none⟩ = some (.int .u64 (nt.round : Int)) := HX3.out.c 2
               have Hs := zh (send_w _ i p q g t0 who0 r x RS.Ou.none w3 H3.out f { RS.Rf.nt 2 with round := nt.round, yes := false } 2 0 (nt.round : Int) 0 0 0 false none 0 0 none 0 0 rfl rfl rfl rfl rfl rfl (EsR.nil _ _) (dat0 _ _) (Nat.zero_le _))
               go_wp2_with (go_at_call 120; refine (Hs.out).mono ?_; rintro e w9 ⟨⟨v, rfl⟩, own9, x9, h9, a1, a2, a3, m9⟩; have H9 := zh h9; have HA := zh (show Adds x x9 from ⟨a1, a2, a3⟩); have HM9 := zh (HM3.out.trans (m9.mono fun l e => .inr e)); clear h9 a1 a2 a3 m9; clear n2; have hq0 := H9.out.q0; have hr9 := H9.out.nd.crole)
               go_end0
               rw [HV.out]
               exact ⟨⟨_, rfl⟩, own9, x9, H9.out, HA.out, HM9.out⟩
             · have hv : r.rankYes f nt false = false := by
                unfold RS.Rf.rankYes
                rw [bt0, at0, ix0, id0, ro0]
                rfl
               have HV := zh (rank_up r f nt d hv (by simpa using r30))
               clear hv
               have Hbt := zh (show better nt.at_ nt.index tip last = false by rw [Hl.out, Ht.out]; exact bt0)
               have f1 : (nt.at_ == tip) = true := by rw [Ht.out]; simpa using at0
               have f2 : ((nt.at_ : Int) == (tip : Int)) = true := by have := at0; rw [Ht.out]; simp at this ⊢; omega
               have f3 : (nt.index == last) = true := by rw [Hl.out]; simpa using ix0
               have f4 : ((nt.index : Int) == (last : Int)) = true := by have := ix0; rw [Hl.out]; simp at this ⊢; omega
               have f5 : decide ((f : Int) < (r.id : Int)) = true := by simpa using id0
               have f6 : decide ((r.role : Int) ≤ 1) = false := by have := ro0; simp at this ⊢; omega
               have f7 : (r.role == 3) = true := by simpa using r30
               have f8 : ((r.role : Int) == 3) = true := by have := r30; simp at this ⊢; omega
               clear bt0 at0 ix0
               repeat (go_big_quiet_step ((go_at_call 13; exact Calls.quiet_of_same (bet_same Hbt.out _))))
               refine wpQuiet_nil ?_
               intro W3 hw3
               obtain ⟨nq, rfl⟩ := hw3
               clear hq0 hp1 hp2 hp7 hp8 hp10 n2 n3 n4
               have H3 := zh (H2.out.mv (L := fun _ => False) (Mv.drewN own2 w2 nq) id id)
               have HX3 := zh (HX2.out.mv (L := fun _ => False) (Mv.drewN own2 w2 nq) id)
               have HM3 := zh (HM2.out.trans (Mv.drewN own2 w2 nq))
               clear H2 HX2 HM2
               generalize w2.drewN nq = w3 at *
               go_upto_region 5 with (fail)
               have n2 : w3.cell? ⟨w.heap.size, 2, none⟩ = some (.int .u64 (nt.round : Int)) := HX3.out.c 2
               have Hs := zh (send_w _ i p q g t0 who0 r x RS.Ou.none w3 H3.out f { RS.Rf.nt 2 with round := nt.round, yes := false } 2 0 (nt.round : Int) 0 0 0 false none 0 0 none 0 0 rfl rfl rfl rfl rfl rfl (EsR.nil _ _) (dat0 _ _) (Nat.zero_le _))
               go_upto_region 7 with (go_at_call 120; refine (Hs.out).mono ?_; rintro e w9 ⟨⟨v, rfl⟩, own9, x9, h9, a1, a2, a3, m9⟩; have H9 := zh h9; have HA := zh (show Adds x x9 from ⟨a1, a2, a3⟩); have HM9 := zh (HM3.out.trans (m9.mono fun l e => .inr e)); clear h9 a1 a2 a3 m9; clear n2; have hq0 := H9.out.q0; have hr9 := H9.out.nd.crole)
               have Hu := zh (update_w own9 i p q g t0 who0 r x9 (r.put RS.Ou.none f { RS.Rf.nt 2 with round := nt.round, yes := false }) w9 H9.out M Hb.out f hf (by show 1 ≤ 1000; decide) (Nat.zero_le _))
               go_wp2_with (go_at_call 130; refine (Hu.out).mono ?_; rintro e w10 ⟨⟨v, rfl⟩, own10, x10, h10, a10, m10⟩; have H10 := zh h10; have HA10 := zh (HA.out.trans a10); have HM10 := zh (HM9.out.trans (m10.mono fun l e => .inr e)); clear h10 a10 m10)
               go_end0
               rw [HV.out]
               exact ⟨⟨_, rfl⟩, own10, x10, H10.out, HA10.out, HM10.out⟩
           · cases le0 : decide (r.leader = -1)
             · cases qu0 : decide ((r.T : Int) ≤ r.quiet)
               · cases r30 : decide (r.role = 3)
                 · have hv : r.rankYes f nt false = false := by
                    unfold RS.Rf.rankYes
                    rw [bt0, at0, ix0, id0, ro0, le0, qu0]
                    rfl
                   have HV := zh (rank_no r f nt false d hv (by rw [r30]; rfl))
                   clear hv
                   have Hbt := zh (show better nt.at_ nt.index tip last = false by rw [Hl.out, Ht.out]; exact bt0)
                   have f1 : (nt.at_ == tip) = true := by rw [Ht.out]; simpa using at0
                   have f2 : ((nt.at_ : Int) == (tip : Int)) = true := by have := at0; rw [Ht.out]; simp at this ⊢; omega
                   have f3 : (nt.index == last) = true := by rw [Hl.out]; simpa using ix0
                   have f4 : ((nt.index : Int) == (last : Int)) = true := by have := ix0; rw [Hl.out]; simp at this ⊢; omega
                   have f5 : decide ((f : Int) < (r.id : Int)) = true := by simpa using id0
                   have f6 : decide ((r.role : Int) ≤ 1) = true := by have := ro0; simp at this ⊢; omega
                   have f7 : (r.leader == -1) = false := by simpa using le0
                   have f8 : (r.role == 3) = false := by simpa using r30
                   have f9 : ((r.role : Int) == 3) = false := by have := r30; simp at this ⊢; omega
                   clear bt0 at0 ix0
                   repeat (go_big_quiet_step ((go_at_call 13; exact Calls.quiet_of_same (bet_same Hbt.out _))))
                   refine wpQuiet_nil ?_
                   intro W3 hw3
                   obtain ⟨nq, rfl⟩ := hw3
                   clear hq0 hp1 hp2 hp7 hp8 hp10 n2 n3 n4
                   have H3 := zh (H2.out.mv (L := fun _ => False) (Mv.drewN own2 w2 nq) id id)
                   have HX3 := zh (HX2.out.mv (L := fun _ => False) (Mv.drewN own2 w2 nq) id)
                   have HM3 := zh (HM2.out.trans (Mv.drewN own2 w2 nq))
                   clear H2 HX2 HM2
                   generalize w2.drewN nq = w3 at *
                   go_upto_region 5 with (fail)
                   have n2 : w3.cell? ⟨w.heap.size, 2, none⟩ = some (.int .u64 (nt.round : Int)) := HX3.out.c 2
                   have Hs := zh (send_w _ i p q g t0 who0 r x RS.Ou.none w3 H3.out f { RS.Rf.nt 2 with round := nt.round, yes := false } 2 0 (nt.round : Int) 0 0 0 false none 0 0 none 0 0 rfl rfl rfl rfl rfl rfl (EsR.nil _ _) (dat0 _ _) (Nat.zero_le _))
                   go_wp2_with (go_at_call 120; refine (Hs.out).mono ?_; rintro e w9 ⟨⟨v, rfl⟩, own9, x9, h9, a1, a2, a3, m9⟩; have H9 := zh h9; have HA := zh (show Adds x x9 from ⟨a1, a2, a3⟩); have HM9 := zh (HM3.out.trans (m9.mono fun l e => .inr e)); clear h9 a1 a2 a3 m9; clear n2; have hq0 := H9.out.q0; have hr9 := H9.out.nd.crole)
                   go_end0
                   rw [HV.out]
                   exact ⟨⟨_, rfl⟩, own9, x9, H9.out, HA.out, HM9.out⟩
                 · exfalso; simp at ro0 r30; omega
               · cases r30 : decide (r.role = 3)
                 · have hv : r.rankYes f nt false = true := by
                    unfold RS.Rf.rankYes
                    rw [bt0, at0, ix0, id0, ro0, le0, qu0]
                    rfl
                   have HV := zh (rank_yes r f nt d hv)
                   clear hv
                   have Hbt := zh (show better nt.at_ nt.index tip last = false by rw [Hl.out, Ht.out]; exact bt0)
                   have f1 : (nt.at_ == tip) = true := by rw [Ht.out]; simpa using at0
                   have f2 : ((nt.at_ : Int) == (tip : Int)) = true := by have := at0; rw [Ht.out]; simp at this ⊢; omega
                   have f3 : (nt.index == last) = true := by rw [Hl.out]; simpa using ix0
                   have f4 : ((nt.index : Int) == (last : Int)) = true := by have := ix0; rw [Hl.out]; simp at this ⊢; omega
                   have f5 : decide ((f : Int) < (r.id : Int)) = true := by simpa using id0
                   have f6 : decide ((r.role : Int) ≤ 1) = true := by have := ro0; simp at this ⊢; omega
                   have f7 : (r.leader == -1) = false := by simpa using le0
                   have f8 : (r.role == 3) = false := by simpa using r30
                   have f9 : ((r.role : Int) == 3) = false := by have := r30; simp at this ⊢; omega
                   clear bt0 at0 ix0
                   repeat (go_big_quiet_step ((go_at_call 13; exact Calls.quiet_of_same (bet_same Hbt.out _))))
                   refine wpQuiet_nil ?_
                   intro W3 hw3
                   obtain ⟨nq, rfl⟩ := hw3
                   clear hq0 hp1 hp2 hp7 hp8 hp10 n2 n3 n4
                   have H3 := zh (H2.out.mv (L := fun _ => False) (Mv.drewN own2 w2 nq) id id)
                   have HX3 := zh (HX2.out.mv (L := fun _ => False) (Mv.drewN own2 w2 nq) id)
                   have HM3 := zh (HM2.out.trans (Mv.drewN own2 w2 nq))
                   clear H2 HX2 HM2
                   generalize w2.drewN nq = w3 at *
                   have hq0 := H3.out.q0
                   go_upto_region 4 with (fail)
                   clear hq0
                   have Hfo := zh (follow_w _ i p q g t0 who0 r x RS.Ou.none w3 H3.out hT d hd)
                   go_upto_region 5 with (go_at_call 117; refine (Hfo.out).mono ?_; rintro e w4 ⟨⟨v, rfl⟩, h4, m4⟩; have H4 := zh h4; have HX4 := zh (HX3.out.mv m4 (by omega)); have HM4 := zh (HM3.out.trans (m4.mono fun l e => .inl e)); clear h4 m4)
                   have n2 : w4.cell? ⟨w.heap.size, 2, none⟩ = some (.int .u64 (nt.round : Int)) := HX4.out.c 2
                   have Hs := zh (send_w _ i p q g t0 who0 (r.follow d) x RS.Ou.none w4 H4.out f { RS.Rf.nt 2 with round := nt.round, yes := true } 2 0 (nt.round : Int) 0 0 0 true none 0 0 none 0 0 rfl rfl rfl rfl rfl rfl (EsR.nil _ _) (dat0 _ _) (Nat.zero_le _))
                   go_wp2_with (go_at_call 120; refine (Hs.out).mono ?_; rintro e w9 ⟨⟨v, rfl⟩, own9, x9, h9, a1, a2, a3, m9⟩; have H9 := zh h9; have HA := zh (show Adds x x9 from ⟨a1, a2, a3⟩); have HM9 := zh (HM4.out.trans (m9.mono fun l e => .inr e)); clear h9 a1 a2 a3 m9; clear n2; have hq0 := H9.out.q0; have hr9 : w9.cell? ⟨p, 7, none⟩ = some (.int .u8 0) := H9.out.nd.crole)
                   go_end0
                   rw [HV.out]
                   exact ⟨⟨_, rfl⟩, own9, x9, H9.out, HA.out, HM9.out⟩
                 · exfalso; simp at ro0 r30; omega
             · cases r30 : decide (r.role = 3)
               · have hv : r.rankYes f nt false = true := by
                  unfold RS.Rf.rankYes
                  rw [bt0, at0, ix0, id0, ro0, le0]
                  rfl
                 have HV := zh (rank_yes r f nt d hv)
                 clear hv
                 have Hbt := zh (show better nt.at_ nt.index tip last = false by rw [Hl.out, Ht.out]; exact bt0)
                 have f1 : (nt.at_ == tip) = true := by rw [Ht.out]; simpa using at0
                 have f2 : ((nt.at_ : Int) == (tip : Int)) = true := by have := at0; rw [Ht.out]; simp at this ⊢; omega
                 have f3 : (nt.index == last) = true := by rw [Hl.out]; simpa using ix0
                 have f4 : ((nt.index : Int) == (last : Int)) = true := by have := ix0; rw [Hl.out]; simp at this ⊢; omega
                 have f5 : decide ((f : Int) < (r.id : Int)) = true := by simpa using id0
                 have f6 : decide ((r.role : Int) ≤ 1) = true := by have := ro0; simp at this ⊢; omega
                 have f7 : (r.leader == -1) = true := by simpa using le0
                 have f8 : (r.role == 3) = false := by simpa using r30
                 have f9 : ((r.role : Int) == 3) = false := by have := r30; simp at this ⊢; omega
                 clear bt0 at0 ix0
                 repeat (go_big_quiet_step ((go_at_call 13; exact Calls.quiet_of_same (bet_same Hbt.out _))))
                 refine wpQuiet_nil ?_
                 intro W3 hw3
                 obtain ⟨nq, rfl⟩ := hw3
                 clear hq0 hp1 hp2 hp7 hp8 hp10 n2 n3 n4
                 have H3 := zh (H2.out.mv (L := fun _ => False) (Mv.drewN own2 w2 nq) id id)
                 have HX3 := zh (HX2.out.mv (L := fun _ => False) (Mv.drewN own2 w2 nq) id)
                 have HM3 := zh (HM2.out.trans (Mv.drewN own2 w2 nq))
                 clear H2 HX2 HM2
                 generalize w2.drewN nq = w3 at *
                 have hq0 := H3.out.q0
                 go_upto_region 4 with (fail)
                 clear hq0
                 have Hfo := zh (follow_w _ i p q g t0 who0 r x RS.Ou.none w3 H3.out hT d hd)
                 go_upto_region 5 with (go_at_call 117; refine (Hfo.out).mono ?_; rintro e w4 ⟨⟨v, rfl⟩, h4, m4⟩; have H4 := zh h4; have HX4 := zh (HX3.out.mv m4 (by omega)); have HM4 := zh (HM3.out.trans (m4.mono fun l e => .inl e)); clear h4 m4)
                 have n2 : w4.cell? ⟨w.heap.size, 2, none⟩ = some (.int .u64 (nt.round : Int)) := HX4.out.c 2
                 have Hs := zh (send_w _ i p q g t0 who0 (r.follow d) x RS.Ou.none w4 H4.out f { RS.Rf.nt 2 with round := nt.round, yes := true } 2 0 (nt.round : Int) 0 0 0 true none 0 0 none 0 0 rfl rfl rfl rfl rfl rfl (EsR.nil _ _) (dat0 _ _) (Nat.zero_le _))
                 go_wp2_with (go_at_call 120; refine (Hs.out).mono ?_; rintro e w9 ⟨⟨v, rfl⟩, own9, x9, h9, a1, a2, a3, m9⟩; have H9 := zh h9; have HA := zh (show Adds x x9 from ⟨a1, a2, a3⟩); have HM9 := zh (HM4.out.trans (m9.mono fun l e => .inr e)); clear h9 a1 a2 a3 m9; clear n2; have hq0 := H9.out.q0; have hr9 : w9.cell? ⟨p, 7, none⟩ = some (.int .u8 0) := H9.out.nd.crole)
                 go_end0
                 rw [HV.out]
                 exact ⟨⟨_, rfl⟩, own9, x9, H9.out, HA.out, HM9.out⟩
               · exfalso; simp at ro0 r30; omega
   · cases ro0 : decide (r.role ≤ 1)
     · cases r30 : decide (r.role = 3)
       · have hv : r.rankYes f nt false = false := by
          unfold RS.Rf.rankYes
          rw [bt0, ro0]
          rfl
         have HV := zh (rank_no r f nt false d hv (by rw [r30]; rfl))
         clear hv
         have Hbt := zh (show better nt.at_ nt.index tip last = true by rw [Hl.out, Ht.out]; exact bt0)
         have f1 : decide ((r.role : Int) ≤ 1) = false := by have := ro0; simp at this ⊢; omega
         have f2 : (r.role == 3) = false := by simpa using r30
         have f3 : ((r.role : Int) == 3) = false := by have := r30; simp at this ⊢; omega
         clear bt0
         repeat (go_big_quiet_step ((go_at_call 13; exact Calls.quiet_of_same (bet_same Hbt.out _))))
         refine wpQuiet_nil ?_
         intro W3 hw3
         obtain ⟨nq, rfl⟩ := hw3
         clear hq0 hp1 hp2 hp7 hp8 hp10 n2 n3 n4
         have H3 := zh (H2.out.mv (L := fun _ => False) (Mv.drewN own2 w2 nq) id id)
         have HX3 := zh (HX2.out.mv (L := fun _ => False) (Mv.drewN own2 w2 nq) id)
         have HM3 := zh (HM2.out.trans (Mv.drewN own2 w2 nq))
         clear H2 HX2 HM2
         generalize w2.drewN nq = w3 at *
         go_upto_region 5 with (fail)
         have n2 : w3.cell? ⟨w.heap.size, 2, none⟩ = some (.int .u64 (nt.round : Int)) := HX3.out.c 2
         have Hs := zh (send_w _ i p q g t0 who0 r x RS.Ou.none w3 H3.out f { RS.Rf.nt 2 with round := nt.round, yes := false } 2 0 (nt.round : Int) 0 0 0 false none 0 0 none 0 0 rfl rfl rfl rfl rfl rfl (EsR.nil _ _) (dat0 _ _) (Nat.zero_le _))
         go_wp2_with (go_at_call 120; refine (Hs.out).mono ?_; rintro e w9 ⟨⟨v, rfl⟩, own9, x9, h9, a1, a2, a3, m9⟩; have H9 := zh h9; have HA := zh (show Adds x x9 from ⟨a1, a2, a3⟩); have HM9 := zh (HM3.out.trans (m9.mono fun l e => .inr e)); clear h9 a1 a2 a3 m9; clear n2; have hq0 := H9.out.q0; have hr9 := H9.out.nd.crole)
         go_end0
         rw [HV.out]
         exact ⟨⟨_, rfl⟩, own9, x9, H9.out, HA.out, HM9.out⟩
       · have hv : r.rankYes f nt false = false := by
          unfold RS.Rf.rankYes
          rw [bt0, ro0]
          rfl
         have HV := zh (rank_up r f nt d hv (by simpa using r30))
         clear hv
         have Hbt := zh (show better nt.at_ nt.index tip last = true by rw [Hl.out, Ht.out]; exact bt0)
         have f1 : decide ((r.role : Int) ≤ 1) = false := by have := ro0; simp at this ⊢; omega
         have f2 : (r.role == 3) = true := by simpa using r30
         have f3 : ((r.role : Int) == 3) = true := by have := r30; simp at this ⊢; omega
         clear bt0
         repeat (go_big_quiet_step ((go_at_call 13; exact Calls.quiet_of_same (bet_same Hbt.out _))))
         refine wpQuiet_nil ?_
         intro W3 hw3
         obtain ⟨nq, rfl⟩ := hw3
         clear hq0 hp1 hp2 hp7 hp8 hp10 n2 n3 n4
         have H3 := zh (H2.out.mv (L := fun _ => False) (Mv.drewN own2 w2 nq) id id)
         have HX3 := zh (HX2.out.mv (L := fun _ => False) (Mv.drewN own2 w2 nq) id)
         have HM3 := zh (HM2.out.trans (Mv.drewN own2 w2 nq))
         clear H2 HX2 HM2
         generalize w2.drewN nq = w3 at *
         go_upto_region 5 with (fail)
         have n2 : w3.cell? ⟨w.heap.size, 2, none⟩ = some (.int .u64 (nt.round : Int)) := HX3.out.c 2
         have Hs := zh (send_w _ i p q g t0 who0 r x RS.Ou.none w3 H3.out f { RS.Rf.nt 2 with round := nt.round, yes := false } 2 0 (nt.round : Int) 0 0 0 false none 0 0 none 0 0 rfl rfl rfl rfl rfl rfl (EsR.nil _ _) (dat0 _ _) (Nat.zero_le _))
         go_upto_region 7 with (go_at_call 120; refine (Hs.out).mono ?_; rintro e w9 ⟨⟨v, rfl⟩, own9, x9, h9, a1, a2, a3, m9⟩; have H9 := zh h9; have HA := zh (show Adds x x9 from ⟨a1, a2, a3⟩); have HM9 := zh (HM3.out.trans (m9.mono fun l e => .inr e)); clear h9 a1 a2 a3 m9; clear n2; have hq0 := H9.out.q0; have hr9 := H9.out.nd.crole)
         have Hu := zh (update_w own9 i p q g t0 who0 r x9 (r.put RS.Ou.none f { RS.Rf.nt 2 with round := nt.round, yes := false }) w9 H9.out M Hb.out f hf (by show 1 ≤ 1000; decide) (Nat.zero_le _))
         go_wp2_with (go_at_call 130; refine (Hu.out).mono ?_; rintro e w10 ⟨⟨v, rfl⟩, own10, x10, h10, a10, m10⟩; have H10 := zh h10; have HA10 := zh (HA.out.trans a10); have HM10 := zh (HM9.out.trans (m10.mono fun l e => .inr e)); clear h10 a10 m10)
         go_end0
         rw [HV.out]
         exact ⟨⟨_, rfl⟩, own10, x10, H10.out, HA10.out, HM10.out⟩
     · cases le0 : decide (r.leader = -1)
       · cases qu0 : decide ((r.T : Int) ≤ r.quiet)
         · cases r30 : decide (r.role = 3)
           · have hv : r.rankYes f nt false = false := by
              unfold RS.Rf.rankYes
              rw [bt0, ro0, le0, qu0]
              rfl
             have HV := zh (rank_no r f nt false d hv (by rw [r30]; rfl))
             clear hv
             have Hbt := zh (show better nt.at_ nt.index tip last = true by rw [Hl.out, Ht.out]; exact bt0)
             have f1 : decide ((r.role : Int) ≤ 1) = true := by have := ro0; simp at this ⊢; omega
             have f2 : (r.leader == -1) = false := by simpa using le0
             have f3 : (r.role == 3) = false := by simpa using r30
             have f4 : ((r.role : Int) == 3) = false := by have := r30; simp at this ⊢; omega
             clear bt0
             repeat (go_big_quiet_step ((go_at_call 13; exact Calls.quiet_of_same (bet_same Hbt.out _))))
             refine wpQuiet_nil ?_
             intro W3 hw3
             obtain ⟨nq, rfl⟩ := hw3
             clear hq0 hp1 hp2 hp7 hp8 hp10 n2 n3 n4
             have H3 := zh (H2.out.mv (L := fun _ => False) (Mv.drewN own2 w2 nq) id id)
             have HX3 := zh (HX2.out.mv (L := fun _ => False) (Mv.drewN own2 w2 nq) id)
             have HM3 := zh (HM2.out.trans (Mv.drewN own2 w2 nq))
             clear H2 HX2 HM2
             generalize w2.drewN nq = w3 at *
             go_upto_region 5 with (fail)
             have n2 : w3.cell? ⟨w.heap.size, 2, none⟩ = some (.int .u64 (nt.round : Int)) := HX3.out.c 2
             have Hs := zh (send_w _ i p q g t0 who0 r x RS.Ou.none w3 H3.out f { RS.Rf.nt 2 with round := nt.round, yes := false } 2 0 (nt.round : Int) 0 0 0 false none 0 0 none 0 0 rfl rfl rfl rfl rfl rfl (EsR.nil _ _) (dat0 _ _) (Nat.zero_le _))
             go_wp2_with (go_at_call 120; refine (Hs.out).mono ?_; rintro e w9 ⟨⟨v, rfl⟩, own9, x9, h9, a1, a2, a3, m9⟩; have H9 := zh h9; have HA := zh (show Adds x x9 from ⟨a1, a2, a3⟩); have HM9 := zh (HM3.out.trans (m9.mono fun l e => .inr e)); clear h9 a1 a2 a3 m9; clear n2; have hq0 := H9.out.q0; have hr9 := H9.out.nd.crole)
             go_end0
             rw [HV.out]
             exact ⟨⟨_, rfl⟩, own9, x9, H9.out, HA.out, HM9.out⟩
           · exfalso; simp at ro0 r30; omega
         · cases r30 : decide (r.role = 3)
           · have hv : r.rankYes f nt false = true := by
              unfold RS.Rf.rankYes
              rw [bt0, ro0, le0, qu0]
              rfl
             have HV := zh (rank_yes r f nt d hv)
             clear hv
             have Hbt := zh (show better nt.at_ nt.index tip last = true by rw [Hl.out, Ht.out]; exact bt0)
             have f1 : decide ((r.role : Int) ≤ 1) = true := by have := ro0; simp at this ⊢; omega
             have f2 : (r.leader == -1) = false := by simpa using le0
             have f3 : (r.role == 3) = false := by simpa using r30
             have f4 : ((r.role : Int) == 3) = false := by have := r30; simp at this ⊢; omega
             clear bt0
             repeat (go_big_quiet_step ((go_at_call 13; exact Calls.quiet_of_same (bet_same Hbt.out _))))
             refine wpQuiet_nil ?_
             intro W3 hw3
             obtain ⟨nq, rfl⟩ := hw3
             clear hq0 hp1 hp2 hp7 hp8 hp10 n2 n3 n4
             have H3 := zh (H2.out.mv (L := fun _ => False) (Mv.drewN own2 w2 nq) id id)
             have HX3 := zh (HX2.out.mv (L := fun _ => False) (Mv.drewN own2 w2 nq) id)
             have HM3 := zh (HM2.out.trans (Mv.drewN own2 w2 nq))
             clear H2 HX2 HM2
             generalize w2.drewN nq = w3 at *
             have hq0 := H3.out.q0
             go_upto_region 4 with (fail)
             clear hq0
             have Hfo := zh (follow_w _ i p q g t0 who0 r x RS.Ou.none w3 H3.out hT d hd)
             go_upto_region 5 with (go_at_call 117; refine (Hfo.out).mono ?_; rintro e w4 ⟨⟨v, rfl⟩, h4, m4⟩; have H4 := zh h4; have HX4 := zh (HX3.out.mv m4 (by omega)); have HM4 := zh (HM3.out.trans (m4.mono fun l e => .inl e)); clear h4 m4)
             have n2 : w4.cell? ⟨w.heap.size, 2, none⟩ = some (.int .u64 (nt.round : Int)) := HX4.out.c 2
             have Hs := zh (send_w _ i p q g t0 who0 (r.follow d) x RS.Ou.none w4 H4.out f { RS.Rf.nt 2 with round := nt.round, yes := true } 2 0 (nt.round : Int) 0 0 0 true none 0 0 none 0 0 rfl rfl rfl rfl rfl rfl (EsR.nil _ _) (dat0 _ _) (Nat.zero_le _))
             go_wp2_with (go_at_call 120; refine (Hs.out).mono ?_; rintro e w9 ⟨⟨v, rfl⟩, own9, x9, h9, a1, a2, a3, m9⟩; have H9 := zh h9; have HA := zh (show Adds x x9 from ⟨a1, a2, a3⟩); have HM9 := zh (HM4.out.trans (m9.mono fun l e => .inr e)); clear h9 a1 a2 a3 m9; clear n2; have hq0 := H9.out.q0; have hr9 : w9.cell? ⟨p, 7, none⟩ = some (.int .u8 0) := H9.out.nd.crole)
             go_end0
             rw [HV.out]
             exact ⟨⟨_, rfl⟩, own9, x9, H9.out, HA.out, HM9.out⟩
           · exfalso; simp at ro0 r30; omega
       · cases r30 : decide (r.role = 3)
         · have hv : r.rankYes f nt false = true := by
            unfold RS.Rf.rankYes
            rw [bt0, ro0, le0]
            rfl
           have HV := zh (rank_yes r f nt d hv)
           clear hv
           have Hbt := zh (show better nt.at_ nt.index tip last = true by rw [Hl.out, Ht.out]; exact bt0)
           have f1 : decide ((r.role : Int) ≤ 1) = true := by have := ro0; simp at this ⊢; omega
           have f2 : (r.leader == -1) = true := by simpa using le0
           have f3 : (r.role == 3) = false := by simpa using r30
           have f4 : ((r.role : Int) == 3) = false := by have := r30; simp at this ⊢; omega
           clear bt0
           repeat (go_big_quiet_step ((go_at_call 13; exact Calls.quiet_of_same (bet_same Hbt.out _))))
           refine wpQuiet_nil ?_
           intro W3 hw3
           obtain ⟨nq, rfl⟩ := hw3
           clear hq0 hp1 hp2 hp7 hp8 hp10 n2 n3 n4
           have H3 := zh (H2.out.mv (L := fun _ => False) (Mv.drewN own2 w2 nq) id id)
           have HX3 := zh (HX2.out.mv (L := fun _ => False) (Mv.drewN own2 w2 nq) id)
           have HM3 := zh (HM2.out.trans (Mv.drewN own2 w2 nq))
           clear H2 HX2 HM2
           generalize w2.drewN nq = w3 at *
           have hq0 := H3.out.q0
           go_upto_region 4 with (fail)
           clear hq0
           have Hfo := zh (follow_w _ i p q g t0 who0 r x RS.Ou.none w3 H3.out hT d hd)
           go_upto_region 5 with (go_at_call 117; refine (Hfo.out).mono ?_; rintro e w4 ⟨⟨v, rfl⟩, h4, m4⟩; have H4 := zh h4; have HX4 := zh (HX3.out.mv m4 (by omega)); have HM4 := zh (HM3.out.trans (m4.mono fun l e => .inl e)); clear h4 m4)
           have n2 : w4.cell? ⟨w.heap.size, 2, none⟩ = some (.int .u64 (nt.round : Int)) := HX4.out.c 2
           have Hs := zh (send_w _ i p q g t0 who0 (r.follow d) x RS.Ou.none w4 H4.out f { RS.Rf.nt 2 with round := nt.round, yes := true } 2 0 (nt.round : Int) 0 0 0 true none 0 0 none 0 0 rfl rfl rfl rfl rfl rfl (EsR.nil _ _) (dat0 _ _) (Nat.zero_le _))
           go_wp2_with (go_at_call 120; refine (Hs.out).mono ?_; rintro e w9 ⟨⟨v, rfl⟩, own9, x9, h9, a1, a2, a3, m9⟩; have H9 := zh h9; have HA := zh (show Adds x x9 from ⟨a1, a2, a3⟩); have HM9 := zh (HM4.out.trans (m9.mono fun l e => .inr e)); clear h9 a1 a2 a3 m9; clear n2; have hq0 := H9.out.q0; have hr9 : w9.cell? ⟨p, 7, none⟩ = some (.int .u8 0) := H9.out.nd.crole)
           go_end0
           rw [HV.out]
           exact ⟨⟨_, rfl⟩, own9, x9, H9.out, HA.out, HM9.out⟩
         · exfalso; simp at ro0 r30; omega
 · have HV := zh (rank_no r f nt true d rfl rfl)
   repeat (go_big_quiet_step (fail))
   refine wpQuiet_nil ?_
   intro W3 hw3
   obtain ⟨nq, rfl⟩ := hw3
   clear hq0 hp1 hp2 hp7 hp8 hp10 n2 n3 n4
   have H3 := zh (H2.out.mv (L := fun _ => False) (Mv.drewN own2 w2 nq) id id)
   have HX3 := zh (HX2.out.mv (L := fun _ => False) (Mv.drewN own2 w2 nq) id)
   have HM3 := zh (HM2.out.trans (Mv.drewN own2 w2 nq))
   clear H2 HX2 HM2
   generalize w2.drewN nq = w3 at *
   go_upto_region 5 with (fail)
   have n2 : w3.cell? ⟨w.heap.size, 2, none⟩ = some (.int .u64 (nt.round : Int)) := HX3.out.c 2
   have Hs := zh (send_w _ i p q g t0 who0 r x RS.Ou.none w3 H3.out f { RS.Rf.nt 2 with round := nt.round, yes := false } 2 0 (nt.round : Int) 0 0 0 false none 0 0 none 0 0 rfl rfl rfl rfl rfl rfl (EsR.nil _ _) (dat0 _ _) (Nat.zero_le _))
   go_wp2_with (go_at_call 120; refine (Hs.out).mono ?_; rintro e w9 ⟨⟨v, rfl⟩, own9, x9, h9, a1, a2, a3, m9⟩; have H9 := zh h9; have HA := zh (show Adds x x9 from ⟨a1, a2, a3⟩); have HM9 := zh (HM3.out.trans (m9.mono fun l e => .inr e)); clear h9 a1 a2 a3 m9; clear n2; have hq0 := H9.out.q0; have hr9 := H9.out.nd.crole)
   go_end0
   rw [HV.out]
   exact ⟨⟨_, rfl⟩, own9, x9, H9.out, HA.out, HM9.out⟩
end
end Go.Proofs.Yteellfgiejnigaa
