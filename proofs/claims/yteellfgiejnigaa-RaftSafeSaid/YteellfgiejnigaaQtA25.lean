/- RaftSafe: G20, T9, H25. -/
import Derived.Test.YteellfgiejnigaaQtA00
import Derived.Test.YteellfgiejnigaaQtA24
import Derived.Lib.SlBytesConst
import Derived.Test.YteellfgiejnigaaQtA15
import Derived.DeepKeys
namespace Go.Proofs.Yteellfgiejnigaa
open Go.ChangeShapes Go.WideShapes Go.ChangeAt Go.RowKit
set_option linter.unusedVariables false
section
variable {own own' : Own} {w w' : World} {i p q g t0 N : Nat} {who0 : Int} {r : RS.Rf} {x : Ov} {o : RS.Ou} {M : Nat}
theorem nb_of_fm {T B : Nat} (f : RS.Fm T B r) (hn : r.n ≤ 7) (hT : T ≤ 20) (hl : r.last ≤ B) (hB : B ≤ 80000) (hw : -1 ≤ r.who ∧ r.who ≤ 6) : Nb (B + 2) r := by
 have hle : r.base + r.es.length ≤ B := hl
 refine ⟨by omega, hn, f.id, by rw [f.tT]; exact f.T1, by rw [f.tT]; exact hT, by have := f.term; omega, by have := f.base; omega, by have := f.bt; omega, by omega, fun e he => ⟨by have := (f.es e he).1; omega, (f.es e he).2⟩, by have := f.commit; omega, f.role, ⟨f.leader.1, by have := f.leader.2; omega⟩, ?_, ?_, ?_, hw, by have := f.round; omega, fun q => by have := f.next q; omega, fun q => by have := f.mt q; omega⟩
 · have := f.left; omega
 · have := f.quiet; omega
 · have := f.beat; omega
theorem alone_who : ∀ k, k ≤ 10 → -1 ≤ (RS.alone k).who ∧ (RS.alone k).who ≤ 6 := by decide
theorem alone_nb (k : Nat) (hk : k ≤ 10) : Nb (3 + k + 2) (RS.alone k) := by
 have h := RS.alone_one k
 exact nb_of_fm h.fm (by rw [h.n]; decide) (by decide) h.last (by omega) (alone_who k hk)
theorem alone_beat (k : Nat) : 0 ≤ (RS.alone k).beat := (RS.alone_one k).fm.beat.1
theorem Mv.low {L : Nat → Prop} {W W' : World} {n : Nat} (m : Mv L own W own' W') (h9 : ∀ b, b < n → own b = 9) (hn : n ≤ W.heap.size) (hL : ¬ L 9) : Below n W W' ∧ ∀ b, b < n → own' b = 9 :=
 ⟨⟨m.t.os, m.t.tape, m.t.output, m.t.size, fun b hb => m.same (by omega) (by rw [h9 b hb]; exact hL)⟩, fun b hb => (m.lab b (by omega)).trans (h9 b hb)⟩
set_option maxRecDepth 100000 in
set_option maxHeartbeats 2000000 in
theorem known_w (w : World) : Calls Try.prog 50 #[] w fun e w' => e = .returned (.bool true) ∧ Below w.heap.size w w' := by
 have Hnew := zh (new_w (fun _ => False) 0 0 (.slice none 0 0) [] w (by decide) (by decide) (EsR.nil w _) (by decide) (fun e he => by cases he))
 go_enter Try.func50, Try.ntmps50
 go_wp2_with (first
  | (go_at_call 22; refine (Hnew.out).mono ?_; rintro e w1 ⟨rfl, ⟨v1, ht1⟩, hB1⟩; have HB1 := zh hB1; have Hn := zh (new_ok_w 0 (by decide) 1 0 3 0 (-1) _ w.heap.size 0 0 v1 [] 1 w1 ht1 (by decide) (by decide) (by decide) (by decide) (by decide) (by decide) (by decide) (by decide) (fun e he => by cases he) (by decide) (by decide)); clear ht1 hB1)
  | (go_at_call 55; refine (Hn.out).mono ?_; rintro e w2 ⟨P, g, rfl, h2, hB2⟩; have H2 := zh h2; have HB2 := zh hB2; clear h2 hB2))
 have HB2' := zh (HB1.out.trans (HB2.out.mono HB1.out.size))
 have Hs1 := zh HB1.out.size
 clear HB1 HB2 Hn Hnew
 go_loopw [3] (fun c wr => ∃ (k : Nat) (own : Own) (g : Nat), k ≤ 10 ∧ c = .int .i64 (k : Int) ∧ Hid (NdAt own wr 0 P g (RS.alone k)) ∧ Hid (∀ b, b < w.heap.size → own b = 9) ∧ Hid (Below w.heap.size w wr)) (fun c _ => 10 - (intOf c).toNat)
 case atStart => exact ⟨0, _, g, by decide, rfl, H2, zh (fun b hb => ext_lt (Nat.lt_of_lt_of_le hb Hs1.out)), HB2'⟩
 clear H2 HB2' Hs1
 case round =>
  obtain ⟨k, own, g, hk, rfl, HN, HL, HB⟩ := hrel
  by_cases hlt : k < 10
  · have Htick := zh (tick_w own 0 P g (RS.alone k) wr HN.out (3 + k + 2) (alone_nb k (by omega)) (by omega) (alone_beat k) 0 (by decide))
    go_wp2_with (go_at_call 58; refine (Htick.out).mono ?_; rintro e w3 ⟨x, own3, g3, rfl, h3, _, m3⟩; have H3 := zh h3; have HM3 := zh (m3.low HL.out HB.out.size (by decide)); clear h3 m3)
    go_roundw
    case rel => exact ⟨k + 1, own3, g3, by omega, by go_num, H3, zh HM3.out.2, zh (HB.out.trans HM3.out.1)⟩
    case measure => simp [intOf]; omega
  · obtain rfl : k = 10 := by omega
    obtain ⟨k1, k2, k3, k4, k5, k6, k7, k8⟩ := RS.alone_known
    have hA := HN.out.mv (L := fun _ => False) (Mv.alloc own wr (.cells #[.int .u8 97] 5 (1, 2)) 9) id
    have hrd : RdB (wr.alloc (.cells #[.int .u8 97] 5 (1, 2))) (.slice (some ⟨wr.heap.size, 0, none⟩) 1 1) [97] :=
     RdB_of_block (heap_alloc_new wr _) rfl (Nat.le_refl _) (by decide) (fun j hj => by
      have hj' : j < 1 := hj
      obtain rfl : j = 0 := by omega
      rfl)
    have hlow := (Mv.alloc own wr (.cells #[.int .u8 97] 5 (1, 2)) 9).low HL.out HB.out.size id
    have hpr := prop_yes_w _ 0 P g (RS.alone 10) _ hA (3 + 10 + 2) (alone_nb 10 (by decide)) (by decide) k1 [97] _ _ _ hrd (by decide)
    have hP := hA.lt
    rw [k8] at hpr
    replace hpr := (show Calls Try.prog 56 _ _ (ToldP _ _ _ _ _ _ _ 2 0) from hpr)
    have Hpr := zh hpr
    have HLow := zh hlow
    have Hk := zh (And.intro k3 (And.intro k4 (And.intro k5 k7)))
    have hw0 : w.heap.size ≤ wr.heap.size := HB.out.size
    clear k1 k2 k3 k4 k5 k6 k7 k8 hA hrd hlow hpr hP
    generalize (RS.alone 10).propose [97] = res at *
    generalize ext own wr.heap.size 9 = ownA at *
    obtain ⟨r', o'⟩ := res
    have kc := fun (w : World) (C : Array Value) (n c : Nat) => Lib.run_convert_bytes_const (P := Try.prog) w 29 5 C n c Try.underlying29 Try.underlying5
    go_upto_region 9 with (first
     | (refine wpList_store_rowTo rfl 100 (.tmp 5) (.tmp 27) rfl rfl _ (Ov.cells x) rfl rfl 100 _ HZ.out (show _ = some 16 by kernel_rfl) rfl (ov_one x) ?_)
     | (go_at_call 56; refine (Hpr.out).mono ?_; rintro e w3 ⟨x, own3, g3, rfl, h3, ho3, m3⟩; have H3 := zh h3; have Han := zh ho3.an; have HM3 := zh (m3.low HLow.out.2 (HB.out.trans HLow.out.1).size (by decide)); clear h3 ho3 m3; have HZ := zh (heap_alloc_new w3 (.cells #[.bool false, .bool false, .int .u8 0, .int .u64 0, .int .u64 0, .int .u64 0, .int .u64 0, .int .u64 0, .bool false, .slice none 0 0, .slice none 0 0, .bool false, .int .u64 0, .slice none 0 0, .slice none 0 0, .slice none 0 0] 100))))
    have hbx := Bx.new own3 w3 #[.bool false, .bool false, .int .u8 0, .int .u64 0, .int .u64 0, .int .u64 0, .int .u64 0, .int .u64 0, .bool false, .slice none 0 0, .slice none 0 0, .bool false, .int .u64 0, .slice none 0 0, .slice none 0 0, .slice none 0 0] 100
    have H4 := zh ((H3.out.mv (L := fun _ => False) (Mv.alloc own3 w3 (.cells #[.bool false, .bool false, .int .u8 0, .int .u64 0, .int .u64 0, .int .u64 0, .int .u64 0, .int .u64 0, .bool false, .slice none 0 0, .slice none 0 0, .bool false, .int .u64 0, .slice none 0 0, .slice none 0 0, .slice none 0 0] 100) 9) id).mv (L := fun l => l = 9) (Mv.row9 (ds := Ov.cells x) hbx) (by decide))
    have HX4 := zh (hbx.setRow (Ov.cells x))
    have HB4 := zh (show Below w.heap.size w ((w3.alloc (.cells #[.bool false, .bool false, .int .u8 0, .int .u64 0, .int .u64 0, .int .u64 0, .int .u64 0, .int .u64 0, .bool false, .slice none 0 0, .slice none 0 0, .bool false, .int .u64 0, .slice none 0 0, .slice none 0 0, .slice none 0 0] 100)).setRow w3.heap.size (Ov.cells x)) from by
     have h1 := (HB.out.trans HLow.out.1).trans HM3.out.1
     exact Below_setRow (h1.alloc h1.size _) h1.size _)
    clear hbx HZ
    generalize (w3.alloc (.cells #[.bool false, .bool false, .int .u8 0, .int .u64 0, .int .u64 0, .int .u64 0, .int .u64 0, .int .u64 0, .bool false, .slice none 0 0, .slice none 0 0, .bool false, .int .u64 0, .slice none 0 0, .slice none 0 0, .slice none 0 0] 100)).setRow w3.heap.size (Ov.cells x) = w4 at *
    generalize ext own3 w3.heap.size 9 = own4 at *
    obtain ⟨k3, k4, k5, k7⟩ := Hk.out
    have hrole := role_w own4 0 P g3 r' w4 H4.out
    have hterm := term_w own4 0 P g3 r' w4 H4.out
    have hcom := commit_w own4 0 P g3 r' w4 H4.out
    rw [k3] at hrole
    rw [k4] at hterm
    rw [k5] at hcom
    have Hrole := zh hrole
    have Hterm := zh hterm
    have Hcom := zh hcom
    have hc13 : w4.cell? ⟨w3.heap.size, 13, none⟩ = some (.slice x.ap 1 x.ac) := by
     rw [HX4.out.c]
     show some (Value.slice x.ap x.an x.ac) = _
     rw [Han.out, k7]
    clear k3 k4 k5 k7 hrole hterm hcom
    go_wp2_with (first
     | (go_at_call 61; refine (Hrole.out).mono ?_; rintro e w5 ⟨rfl, rfl⟩)
     | (go_at_call 62; refine (Hterm.out).mono ?_; rintro e w5 ⟨rfl, rfl⟩)
     | (go_at_call 65; refine (Hcom.out).mono ?_; rintro e w5 ⟨rfl, rfl⟩))
    go_ret
    exact ⟨rfl, HB4.out⟩
end
def better (t i ot oi : Nat) : Bool := decide (ot < t) || (decide (t = ot) && decide (oi < i))
theorem better_w (t i ot oi : Nat) (w : World) : Calls Try.prog 13 #[.int .u64 (t : Int), .int .u64 (i : Int), .int .u64 (ot : Int), .int .u64 (oi : Int)] w fun r w' => r = .returned (.bool (better t i ot oi)) ∧ Below w.heap.size w w' := by
 unfold better
 by_cases h1 : ot < t
 · have e1 : decide (ot < t) = true := by simp [h1]
   go_enter Try.func13, Try.ntmps13
   go_wp2
   go_ret
   exact ⟨by rw [e1]; rfl, Below.refl _ _⟩
 · have e1 : decide (ot < t) = false := by simp; omega
   by_cases h2 : t = ot
   · subst h2
     have e2 : (t == t) = true := by simp
     go_enter Try.func13, Try.ntmps13
     go_wp2
     go_ret
     exact ⟨by simp, Below.refl _ _⟩
   · have e2 : decide (t = ot) = false := by simp [h2]
     have e3 : (t == ot) = false := by simp [h2]
     go_enter Try.func13, Try.ntmps13
     go_wp2
     go_ret
     exact ⟨by rw [e1, e2]; rfl, Below.refl _ _⟩
theorem better_not (a0 a1 b0 b1 : Nat) (h : better a0 a1 b0 b1 = true) : better b0 b1 a0 a1 = false := by
 unfold better at *; simp at *; omega
section
variable {own own' : Own} {w w' : World} {i p q g t0 N : Nat} {who0 : Int} {r : RS.Rf} {x : Ov} {o : RS.Ou} {M : Nat}
theorem dat0 (w : World) (S : Foot) : DatA w S (.slice none 0 0) [] := ⟨(OB.nil _ 0 5).rd, (fun g e _ => by cases e), (fun g e _ => by cases e), (fun b off c e => by cases e)⟩
theorem vote_eq (r : RS.Rf) (f : Nat) (nt : RS.Nt) (old : Bool) (d : Nat) {b : Bool} (h : r.voteYes f nt old = b) : r.vote f nt old d = ((if b then ({ r with who := (f : Int) } : RS.Rf).follow d else r), (if b then ({ r with who := (f : Int) } : RS.Rf).follow d else r).put RS.Ou.none f { RS.Rf.nt 4 with yes := b }) := by
 subst h; rfl
set_option maxRecDepth 100000 in
set_option maxHeartbeats 2000000 in
theorem vote_w (own : Own) (i p q g t0 : Nat) (who0 : Int) (r : RS.Rf) (x : Ov) (w : World) (h : StAt own w i p q g t0 who0 r x RS.Ou.none) (M : Nat) (hb : Nb M r) (f : Nat) (nt : RS.Nt) (pl pd : Option Addr) (nl cl nd cd : Nat) (d : Nat) (hd : d < 2 ^ 64) (old : Bool) :
 Calls Try.prog 119 #[.pointer (some ⟨q, 0, none⟩), .int .i64 (f : Int), .agg #[.int .u8 (nt.kind : Int), .int .u64 (nt.term : Int), .int .u64 (nt.round : Int), .int .u64 (nt.index : Int), .int .u64 (nt.at_ : Int), .int .u64 (nt.commit : Int), .bool nt.yes, .slice pl nl cl, .slice pd nd cd], .bool old, .int .u64 (d : Int)] w fun e w' => (∃ v, e = .returned v) ∧ Stp own w (fun l => l = i ∨ l = 7) i p q g t0 who0 (r.vote f nt old d).1 x (r.vote f nt old d).2 w' := by
 have hi7 := h.nd.hi
 have hT := hb.T2
 obtain ⟨w1, hw1⟩ : ∃ w1, w.alloc (.cells #[.int .u8 (nt.kind : Int), .int .u64 (nt.term : Int), .int .u64 (nt.round : Int), .int .u64 (nt.index : Int), .int .u64 (nt.at_ : Int), .int .u64 (nt.commit : Int), .bool nt.yes, .slice pl nl cl, .slice pd nd cd] 31) = w1 := ⟨_, rfl⟩
 have H1 := zh (h.alloc (.cells #[.int .u8 (nt.kind : Int), .int .u64 (nt.term : Int), .int .u64 (nt.round : Int), .int .u64 (nt.index : Int), .int .u64 (nt.at_ : Int), .int .u64 (nt.commit : Int), .bool nt.yes, .slice pl nl cl, .slice pd nd cd] 31))
 have HX1 := zh (Bx.new own w #[.int .u8 (nt.kind : Int), .int .u64 (nt.term : Int), .int .u64 (nt.round : Int), .int .u64 (nt.index : Int), .int .u64 (nt.at_ : Int), .int .u64 (nt.commit : Int), .bool nt.yes, .slice pl nl cl, .slice pd nd cd] 31)
 have HM1 := zh ((Mv.refl (fun l => l = i ∨ l = 7) own w).alloc7 (.cells #[.int .u8 (nt.kind : Int), .int .u64 (nt.term : Int), .int .u64 (nt.round : Int), .int .u64 (nt.index : Int), .int .u64 (nt.at_ : Int), .int .u64 (nt.commit : Int), .bool nt.yes, .slice pl nl cl, .slice pd nd cd] 31))
 have Hlen := zh (show r.es.length ≤ 1000000 by have := hb.len; have := hb.hM; omega)
 rw [hw1] at H1 HX1 HM1
 have HW := zh hw1
 clear h hw1 hb
 generalize ext own w.heap.size 9 = own1 at *
 have Htip := zh (H1.out.nd.tk.elim fun v htk => tip_w _ g r.base r.bt v r.es w1 htk Hlen.out)
 obtain ⟨last, hlast⟩ : ∃ n, n = r.base + r.es.length := ⟨_, rfl⟩
 obtain ⟨tip, htip⟩ : ∃ n, n = tipT r.bt r.es := ⟨_, rfl⟩
 rw [← hlast, ← htip] at Htip
 have Hl := zh hlast
 have Ht := zh htip
 clear hlast htip
 go_enter Try.func119, Try.ntmps119
 go_upto_region 1 with (fail)
 rw [HW.out]
 have hq0 := H1.out.q0
 have hp5 := H1.out.nd.ctk
 go_upto_region 2 with (go_at_call 23; refine (Htip.out).mono ?_; rintro e w2 ⟨rfl, hB⟩; have H2 := zh (H1.out.below hB); have HX2 := zh (HX1.out.below hB); have HM2 := zh (HM1.out.below hB); clear hB hq0 hp5)
 clear H1 HX1 HM1 Htip HW
 generalize ext own1 w1.heap.size 9 = own2 at *
 have hq0 := H2.out.q0
 have hp4 := H2.out.nd.cwho
 have n3 : w2.cell? ⟨w.heap.size, 3, none⟩ = some (.int .u64 (nt.index : Int)) := HX2.out.c 3
 have n4 : w2.cell? ⟨w.heap.size, 4, none⟩ = some (.int .u64 (nt.at_ : Int)) := HX2.out.c 4
 cases old
 · cases e1 : (r.who == -1)
   · cases e2 : (r.who == (f : Int))
     · have HV := zh (show r.voteYes f nt false = false by
        unfold RS.Rf.voteYes
        have e1' := e1
        have e2' := e2
        simp only [beq_eq_false_iff_ne, ne_eq] at e1' e2'
        simp [e1', e2'])
       go_upto_region 6 with (fail)
       clear hq0 hp4 n3 n4
       have Hs := zh (send_w _ i p q g t0 who0 r x RS.Ou.none w2 H2.out f { RS.Rf.nt 4 with yes := false } 4 0 0 0 0 0 false none 0 0 none 0 0 rfl rfl rfl rfl rfl rfl (EsR.nil _ _) (dat0 _ _) (Nat.zero_le _))
       go_wp2_with (go_at_call 120; refine (Hs.out).mono ?_; rintro e w9 ⟨⟨v, rfl⟩, own9, x9, h9, a1, a2, a3, m9⟩; have H9 := zh h9; have HA := zh (show Adds x x9 from ⟨a1, a2, a3⟩); have HM9 := zh (HM2.out.trans (m9.mono fun l e => .inr e)); clear h9 a1 a2 a3 m9)
       go_end0
       rw [vote_eq r f nt _ d HV.out]
       exact ⟨⟨_, rfl⟩, own9, x9, H9.out, HA.out, HM9.out⟩
     · cases hbt : RS.Rf.better r.tipt r.last nt.at_ nt.index
       · have HV := zh (show r.voteYes f nt false = true by
          unfold RS.Rf.voteYes
          rw [hbt]
          have e1' := e1
          simp only [beq_iff_eq] at e2
          simp [e2])
         have Hbt := zh (show better tip last nt.at_ nt.index = false by rw [Hl.out, Ht.out]; exact hbt)
         clear hbt
         go_upto_region 4 with (go_at_call 13; refine (better_w tip last nt.at_ nt.index _).mono ?_; rintro e w3 ⟨rfl, hB⟩; rw [Hbt.out]; have H3 := zh (H2.out.below hB); have HX3 := zh (HX2.out.below hB); have HM3 := zh (HM2.out.below hB); clear hB hq0 hp4 n3 n4)
         generalize ext own2 w2.heap.size 9 = own3 at *
         have hq0 := H3.out.q0
         have hp4 := H3.out.nd.cwho
         have hf4 := H3.out.nd.frozen 4
         have H4 := zh (H3.out.setp 4 (.int .i64 (f : Int)) { r with who := (f : Int) } rfl rfl rfl rfl)
         have HM4 := zh (HM3.out.trans ((Mv.set (L := fun l => l = i) (own := own3) (w := w3) (a := ⟨p, 4, none⟩) H3.out.nd.op (.int .i64 (f : Int))).mono fun l e => .inl e))
         go_upto_region 5 with (fail)
         clear hq0 hp4 hf4 H3 HM3
         generalize w3.setCell ⟨p, 4, none⟩ (.int .i64 (f : Int)) = w4 at *
         have Hfo := zh (follow_w own3 i p q g t0 who0 { r with who := (f : Int) } x RS.Ou.none w4 H4.out hT d hd)
         go_upto_region 6 with (go_at_call 117; refine (Hfo.out).mono ?_; rintro e w5 ⟨⟨v, rfl⟩, h5, m5⟩; have H5 := zh h5; have HM5 := zh (HM4.out.trans (m5.mono fun l e => .inl e)); clear h5 m5)
         have Hs := zh (send_w _ i p q g t0 who0 _ x RS.Ou.none w5 H5.out f { RS.Rf.nt 4 with yes := true } 4 0 0 0 0 0 true none 0 0 none 0 0 rfl rfl rfl rfl rfl rfl (EsR.nil _ _) (dat0 _ _) (Nat.zero_le _))
         go_wp2_with (go_at_call 120; refine (Hs.out).mono ?_; rintro e w9 ⟨⟨v, rfl⟩, own9, x9, h9, a1, a2, a3, m9⟩; have H9 := zh h9; have HA := zh (show Adds x x9 from ⟨a1, a2, a3⟩); have HM9 := zh (HM5.out.trans (m9.mono fun l e => .inr e)); clear h9 a1 a2 a3 m9)
         go_end0
         rw [vote_eq r f nt _ d HV.out]
         exact ⟨⟨_, rfl⟩, own9, x9, H9.out, HA.out, HM9.out⟩
       · have HV := zh (show r.voteYes f nt false = false by
          unfold RS.Rf.voteYes
          rw [hbt]
          have e1' := e1
          simp only [beq_iff_eq] at e2
          simp [e2])
         have Hbt := zh (show better tip last nt.at_ nt.index = true by rw [Hl.out, Ht.out]; exact hbt)
         clear hbt
         go_upto_region 6 with (go_at_call 13; refine (better_w tip last nt.at_ nt.index _).mono ?_; rintro e w3 ⟨rfl, hB⟩; rw [Hbt.out]; have H3 := zh (H2.out.below hB); have HX3 := zh (HX2.out.below hB); have HM3 := zh (HM2.out.below hB); clear hB hq0 hp4 n3 n4)
         have Hs := zh (send_w _ i p q g t0 who0 r x RS.Ou.none w3 H3.out f { RS.Rf.nt 4 with yes := false } 4 0 0 0 0 0 false none 0 0 none 0 0 rfl rfl rfl rfl rfl rfl (EsR.nil _ _) (dat0 _ _) (Nat.zero_le _))
         go_wp2_with (go_at_call 120; refine (Hs.out).mono ?_; rintro e w9 ⟨⟨v, rfl⟩, own9, x9, h9, a1, a2, a3, m9⟩; have H9 := zh h9; have HA := zh (show Adds x x9 from ⟨a1, a2, a3⟩); have HM9 := zh (HM3.out.trans (m9.mono fun l e => .inr e)); clear h9 a1 a2 a3 m9)
         go_end0
         rw [vote_eq r f nt _ d HV.out]
         exact ⟨⟨_, rfl⟩, own9, x9, H9.out, HA.out, HM9.out⟩
   · cases hbt : RS.Rf.better r.tipt r.last nt.at_ nt.index
     · have HV := zh (show r.voteYes f nt false = true by
        unfold RS.Rf.voteYes
        rw [hbt]
        have e1' := e1
        simp only [beq_iff_eq] at e1'
        simp [e1'])
       have Hbt := zh (show better tip last nt.at_ nt.index = false by rw [Hl.out, Ht.out]; exact hbt)
       clear hbt
       go_upto_region 4 with (go_at_call 13; refine (better_w tip last nt.at_ nt.index _).mono ?_; rintro e w3 ⟨rfl, hB⟩; rw [Hbt.out]; have H3 := zh (H2.out.below hB); have HX3 := zh (HX2.out.below hB); have HM3 := zh (HM2.out.below hB); clear hB hq0 hp4 n3 n4)
       generalize ext own2 w2.heap.size 9 = own3 at *
       have hq0 := H3.out.q0
       have hp4 := H3.out.nd.cwho
       have hf4 := H3.out.nd.frozen 4
       have H4 := zh (H3.out.setp 4 (.int .i64 (f : Int)) { r with who := (f : Int) } rfl rfl rfl rfl)
       have HM4 := zh (HM3.out.trans ((Mv.set (L := fun l => l = i) (own := own3) (w := w3) (a := ⟨p, 4, none⟩) H3.out.nd.op (.int .i64 (f : Int))).mono fun l e => .inl e))
       go_upto_region 5 with (fail)
       clear hq0 hp4 hf4 H3 HM3
       generalize w3.setCell ⟨p, 4, none⟩ (.int .i64 (f : Int)) = w4 at *
       have Hfo := zh (follow_w own3 i p q g t0 who0 { r with who := (f : Int) } x RS.Ou.none w4 H4.out hT d hd)
       go_upto_region 6 with (go_at_call 117; refine (Hfo.out).mono ?_; rintro e w5 ⟨⟨v, rfl⟩, h5, m5⟩; have H5 := zh h5; have HM5 := zh (HM4.out.trans (m5.mono fun l e => .inl e)); clear h5 m5)
       have Hs := zh (send_w _ i p q g t0 who0 _ x RS.Ou.none w5 H5.out f { RS.Rf.nt 4 with yes := true } 4 0 0 0 0 0 true none 0 0 none 0 0 rfl rfl rfl rfl rfl rfl (EsR.nil _ _) (dat0 _ _) (Nat.zero_le _))
       go_wp2_with (go_at_call 120; refine (Hs.out).mono ?_; rintro e w9 ⟨⟨v, rfl⟩, own9, x9, h9, a1, a2, a3, m9⟩; have H9 := zh h9; have HA := zh (show Adds x x9 from ⟨a1, a2, a3⟩); have HM9 := zh (HM5.out.trans (m9.mono fun l e => .inr e)); clear h9 a1 a2 a3 m9)
       go_end0
       rw [vote_eq r f nt _ d HV.out]
       exact ⟨⟨_, rfl⟩, own9, x9, H9.out, HA.out, HM9.out⟩
     · have HV := zh (show r.voteYes f nt false = false by
        unfold RS.Rf.voteYes
        rw [hbt]
        have e1' := e1
        simp only [beq_iff_eq] at e1'
        simp [e1'])
       have Hbt := zh (show better tip last nt.at_ nt.index = true by rw [Hl.out, Ht.out]; exact hbt)
       clear hbt
       go_upto_region 6 with (go_at_call 13; refine (better_w tip last nt.at_ nt.index _).mono ?_; rintro e w3 ⟨rfl, hB⟩; rw [Hbt.out]; have H3 := zh (H2.out.below hB); have HX3 := zh (HX2.out.below hB); have HM3 := zh (HM2.out.below hB); clear hB hq0 hp4 n3 n4)
       have Hs := zh (send_w _ i p q g t0 who0 r x RS.Ou.none w3 H3.out f { RS.Rf.nt 4 with yes := false } 4 0 0 0 0 0 false none 0 0 none 0 0 rfl rfl rfl rfl rfl rfl (EsR.nil _ _) (dat0 _ _) (Nat.zero_le _))
       go_wp2_with (go_at_call 120; refine (Hs.out).mono ?_; rintro e w9 ⟨⟨v, rfl⟩, own9, x9, h9, a1, a2, a3, m9⟩; have H9 := zh h9; have HA := zh (show Adds x x9 from ⟨a1, a2, a3⟩); have HM9 := zh (HM3.out.trans (m9.mono fun l e => .inr e)); clear h9 a1 a2 a3 m9)
       go_end0
       rw [vote_eq r f nt _ d HV.out]
       exact ⟨⟨_, rfl⟩, own9, x9, H9.out, HA.out, HM9.out⟩
 · have HV := zh (show r.voteYes f nt true = false from rfl)
   go_upto_region 6 with (fail)
   clear hq0 hp4 n3 n4
   have Hs := zh (send_w _ i p q g t0 who0 r x RS.Ou.none w2 H2.out f { RS.Rf.nt 4 with yes := false } 4 0 0 0 0 0 false none 0 0 none 0 0 rfl rfl rfl rfl rfl rfl (EsR.nil _ _) (dat0 _ _) (Nat.zero_le _))
   go_wp2_with (go_at_call 120; refine (Hs.out).mono ?_; rintro e w9 ⟨⟨v, rfl⟩, own9, x9, h9, a1, a2, a3, m9⟩; have H9 := zh h9; have HA := zh (show Adds x x9 from ⟨a1, a2, a3⟩); have HM9 := zh (HM2.out.trans (m9.mono fun l e => .inr e)); clear h9 a1 a2 a3 m9)
   go_end0
   rw [vote_eq r f nt _ d HV.out]
   exact ⟨⟨_, rfl⟩, own9, x9, H9.out, HA.out, HM9.out⟩
end
end Go.Proofs.Yteellfgiejnigaa
