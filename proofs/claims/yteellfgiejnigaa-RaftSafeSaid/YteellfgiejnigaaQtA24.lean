/- RaftSafe: G18, G19. -/
import Derived.Test.YteellfgiejnigaaQtA00
import Derived.Test.YteellfgiejnigaaQtA23
namespace Go.Proofs.Yteellfgiejnigaa
open Go.ChangeShapes Go.WideShapes Go.ChangeAt Go.RowKit
set_option linter.unusedVariables false
section
variable {own own' : Own} {w w' : World} {i p q g t0 N : Nat} {who0 : Int} {r : RS.Rf} {x : Ov} {o : RS.Ou} {M : Nat}
theorem tick_w (own : Own) (i p g : Nat) (r : RS.Rf) (w : World) (h : NdAt own w i p g r) (M : Nat) (hb : Nb M r) (hM : M ≤ 90000) (h0 : 0 ≤ r.beat) (d : Nat) (hd : d < 2 ^ 64) :
 Calls Try.prog 58 #[.pointer (some ⟨p, 0, none⟩), .int .u64 (d : Int)] w (Told own w (fun l => l = i ∨ l = 7) i p (r.tick d).1 (r.tick d).2) := by
 by_cases hr : r.role = 3
 · by_cases hbe : r.beat - 1 ≤ 0
   · have e : r.tick d = (({ r with beat := r.beat - 1 } : RS.Rf).pulse, ({ r with beat := r.beat - 1 } : RS.Rf).pulse.updates RS.Ou.none) := by
      unfold RS.Rf.tick; rw [if_pos hr]; exact if_pos hbe
     rw [e]
     exact tick_a1_w own i p g r w h M hb hM d hd hr h0 hbe
   · have e : r.tick d = (({ r with beat := r.beat - 1 } : RS.Rf), RS.Ou.none) := by
      unfold RS.Rf.tick; rw [if_pos hr]; exact if_neg hbe
     rw [e]
     exact tick_a2_w own i p g r w h M hb hM d hd hr hbe
 · by_cases hl : 0 < r.left - 1
   · have e : r.tick d = (({ r with quiet := min (r.quiet + 1) (r.T : Int), left := r.left - 1 } : RS.Rf), RS.Ou.none) := by
      unfold RS.Rf.tick; rw [if_neg hr]; exact if_pos hl
     rw [e]
     exact tick_b1_w own i p g r w h M hb hM d hd hr hl
   · by_cases h1 : r.role = 0
     · have e : r.tick d = (({ ({ r with quiet := min (r.quiet + 1) (r.T : Int), left := r.left - 1 } : RS.Rf) with role := 1, left := 2 * (r.T : Int), round := r.round + 1 } : RS.Rf).alone, ({ ({ r with quiet := min (r.quiet + 1) (r.T : Int), left := r.left - 1 } : RS.Rf) with role := 1, left := 2 * (r.T : Int), round := r.round + 1 } : RS.Rf).alone.ask RS.Ou.none 1) := by
        unfold RS.Rf.tick; rw [if_neg hr]; dsimp only; rw [if_neg hl, if_pos h1]
       rw [e]
       exact tick_b2_w own i p g r w h M hb hM d hd h1 hl
     · by_cases h2 : r.role = 1
       · by_cases h3 : r.most = true
         · have hc : r.role = 1 ∧ ({ r with quiet := min (r.quiet + 1) (r.T : Int), left := r.left - 1 } : RS.Rf).most = true ∧ r.term < 18446744073709551615 := ⟨h2, h3, by have h1 := hb.term; have h2 := hb.hM; omega⟩
           by_cases h4 : ({ ({ r with quiet := min (r.quiet + 1) (r.T : Int), left := r.left - 1 } : RS.Rf) with role := 2, who := (r.id : Int), leader := -1, left := (r.T : Int), term := r.term + 1 } : RS.Rf).alone.most = true
           · have e : r.tick d = ({ ({ r with quiet := min (r.quiet + 1) (r.T : Int), left := r.left - 1 } : RS.Rf) with role := 2, who := (r.id : Int), leader := -1, left := (r.T : Int), term := r.term + 1 } : RS.Rf).alone.lead (({ ({ r with quiet := min (r.quiet + 1) (r.T : Int), left := r.left - 1 } : RS.Rf) with role := 2, who := (r.id : Int), leader := -1, left := (r.T : Int), term := r.term + 1 } : RS.Rf).alone.ask RS.Ou.none 3) := by
              unfold RS.Rf.tick; rw [if_neg hr]; dsimp only; rw [if_neg hl, if_neg h1, if_pos hc]; exact if_pos h4
             rw [e]
             exact tick_b3b_w own i p g r w h M hb hM d hd h2 hl h3 h4
           · have e : r.tick d = (({ ({ r with quiet := min (r.quiet + 1) (r.T : Int), left := r.left - 1 } : RS.Rf) with role := 2, who := (r.id : Int), leader := -1, left := (r.T : Int), term := r.term + 1 } : RS.Rf).alone, ({ ({ r with quiet := min (r.quiet + 1) (r.T : Int), left := r.left - 1 } : RS.Rf) with role := 2, who := (r.id : Int), leader := -1, left := (r.T : Int), term := r.term + 1 } : RS.Rf).alone.ask RS.Ou.none 3) := by
              unfold RS.Rf.tick; rw [if_neg hr]; dsimp only; rw [if_neg hl, if_neg h1, if_pos hc]; exact if_neg h4
             rw [e]
             exact tick_b3a_w own i p g r w h M hb hM d hd h2 hl h3 (by simpa using h4)
         · have hc : ¬ (r.role = 1 ∧ ({ r with quiet := min (r.quiet + 1) (r.T : Int), left := r.left - 1 } : RS.Rf).most = true ∧ r.term < 18446744073709551615) := fun h => h3 h.2.1
           have e : r.tick d = (({ r with quiet := min (r.quiet + 1) (r.T : Int), left := r.left - 1 } : RS.Rf).follow d, RS.Ou.none) := by
            unfold RS.Rf.tick; rw [if_neg hr]; dsimp only; rw [if_neg hl, if_neg h1, if_neg hc]
           rw [e]
           exact tick_b4d_w own i p g r w h M hb hM d hd h2 hl (by simpa using h3)
       · have hc : ¬ (r.role = 1 ∧ ({ r with quiet := min (r.quiet + 1) (r.T : Int), left := r.left - 1 } : RS.Rf).most = true ∧ r.term < 18446744073709551615) := fun h => h2 h.1
         have e : r.tick d = (({ r with quiet := min (r.quiet + 1) (r.T : Int), left := r.left - 1 } : RS.Rf).follow d, RS.Ou.none) := by
          unfold RS.Rf.tick; rw [if_neg hr]; dsimp only; rw [if_neg hl, if_neg h1, if_neg hc]
         rw [e]
         exact tick_b4c_w own i p g r w h M hb hM d hd (by have := hb.role; omega) hl
def newRf (n id T term : Nat) (who : Int) (B bt : Nat) (es : List Ent) : RS.Rf := { n := n, id := id, T := T, term := term, who := who, base := B, bt := bt, es := es, commit := B, role := 0, leader := -1, left := 0, quiet := (T : Int), beat := 0, round := 0, sides := fun _ => false, next := fun _ => 0, mt := fun _ => 0 }
theorem crash_eq (r : RS.Rf) (d : Nat) : r.crash d = (newRf r.n r.id r.T r.term r.who r.base r.bt r.es).draw d := rfl
def NodeV (n id T term : Nat) (who : Int) (B bt : Nat) (es : List Ent) (B0 : Nat) (y : Value) (W : World) : Prop := ∃ N v', y = .agg #[.int .i64 (n : Int), .int .i64 (id : Int), .int .i64 (T : Int), .int .u64 (term : Int), .int .i64 who, .pointer (some ⟨N, 0, none⟩), .int .u64 0, .int .u8 0, .int .i64 (-1), .int .i64 0, .int .i64 (T : Int), .int .i64 0, .int .u64 0, .bool false, .bool false, .bool false, .bool false, .bool false, .bool false, .bool false, .int .u64 0, .int .u64 0, .int .u64 0, .int .u64 0, .int .u64 0, .int .u64 0, .int .u64 0, .int .u64 0, .int .u64 0, .int .u64 0, .int .u64 0, .int .u64 0, .int .u64 0, .int .u64 0] ∧ B0 ≤ N ∧ TkAt W (fun b => B0 ≤ b) N B bt v' es
theorem NodeV.keeps {n id T term : Nat} {who : Int} {B bt : Nat} {es : List Ent} {B0 : Nat} {y : Value} {W W' : World} (h : NodeV n id T term who B bt es B0 y W) (hk : Keeps W W') : NodeV n id T term who B bt es B0 y W' := by
 obtain ⟨N, v', e, h1, h2⟩ := h; exact ⟨N, v', e, h1, h2.keeps hk⟩
def NewP (i : Nat) (r : RS.Rf) (w : World) (e : Ending) (w' : World) : Prop :=
 ∃ P g, e = .returned (.tuple #[.pointer (some ⟨P, 0, none⟩), .int .i64 0]) ∧ NdAt (ext (fun _ => 9) w.heap.size i) w' i P g r ∧ Below w.heap.size w w'
set_option maxRecDepth 100000 in
set_option maxHeartbeats 2000000 in
theorem new_ok_w (i : Nat) (hi : i < 7) (n id T term : Nat) (who : Int) (S : Foot) (gt B bt : Nat) (v : Value) (es : List Ent) (d : Nat) (w : World) (ht : TkAt w S gt B bt v es) (hn1 : 1 ≤ n) (hn7 : n ≤ 7) (hid : id < n) (hT1 : 1 ≤ T) (hT2 : T ≤ 20) (hwl : -1 ≤ who) (hwh : who < (n : Int)) (hl : es.length ≤ 1000000) (hel : ∀ e ∈ es, e.2.length ≤ 1000000) (hB : B + es.length ≤ 4611686018427387904) (hd : d < 2 ^ 64) :
 Calls Try.prog 55 #[.agg #[.int .i64 (n : Int), .int .i64 (id : Int), .int .i64 (T : Int)], .int .u64 (term : Int), .int .i64 who, .pointer (some ⟨gt, 0, none⟩), .int .u64 (d : Int)] w (NewP i ((newRf n id T term who B bt es).draw d) w) := by
 obtain ⟨w1, hw1⟩ : ∃ w1, w.alloc (.cells #[.int .i64 (n : Int), .int .i64 (id : Int), .int .i64 (T : Int)] 85) = w1 := ⟨_, rfl⟩
 have hB1 : Below w.heap.size w (w.alloc (.cells #[.int .i64 (n : Int), .int .i64 (id : Int), .int .i64 (T : Int)] 85)) := (Below.refl _ _).alloc (Nat.le_refl _) _
 have hC := heap_alloc_new w (.cells #[.int .i64 (n : Int), .int .i64 (id : Int), .int .i64 (T : Int)] 85)
 rw [hw1] at hB1 hC
 have HW := zh hw1
 have HB1 := zh hB1
 have ht1 := ht.keeps hB1.block
 have HT1 := zh ht1
 have Htip := zh (tip_w S gt B bt v es w1 ht1 hl)
 obtain ⟨last, hlast⟩ : ∃ y, y = B + es.length := ⟨_, rfl⟩
 have Hl := zh hlast
 rw [← Hl.out] at Htip
 have q0 : w1.cell? ⟨w.heap.size, 0, none⟩ = some (.int .i64 (n : Int)) := by rw [cell_of_row _ _ _ _ _ _ hC]; rfl
 have q1 : w1.cell? ⟨w.heap.size, 1, none⟩ = some (.int .i64 (id : Int)) := by rw [cell_of_row _ _ _ _ _ _ hC]; rfl
 have q2 : w1.cell? ⟨w.heap.size, 2, none⟩ = some (.int .i64 (T : Int)) := by rw [cell_of_row _ _ _ _ _ _ hC]; rfl
 have a1 : decide ((n : Int) < 1) = false := by simp; omega
 have a1' : decide (n < 1) = false := by simp; omega
 have a1'' : decide (n = 0) = false := by simp; omega
 have a2 : decide ((7 : Int) < (n : Int)) = false := by simp; omega
 have a2' : decide (7 < n) = false := by simp; omega
 have a3 : decide ((id : Int) < 0) = false := by simp
 have a4 : decide ((n : Int) ≤ (id : Int)) = false := by simp; omega
 have a4' : decide (n ≤ id) = false := by simp; omega
 have a5 : decide ((T : Int) < 1) = false := by simp; omega
 have a5' : decide (T < 1) = false := by simp; omega
 have a5'' : decide (T = 0) = false := by simp; omega
 have a6 : decide ((1000 : Int) < (T : Int)) = false := by simp; omega
 have a6' : decide (1000 < T) = false := by simp; omega
 have a7 : decide (who < -1) = false := by simp; omega
 have a8 : decide ((n : Int) ≤ who) = false := by simp; omega
 have a9 : decide ((4611686018427387904 : Int) < (last : Int)) = false := by simp; omega
 have a9' : decide (4611686018427387904 < last) = false := by simp; omega
 have Hnn := zh (And.intro hn7 (And.intro hT2 (And.intro hl (And.intro hel hB))))
 have hpn : 0 < n := by omega
 have hpT : 0 < T := by omega
 clear hw1 hB1 ht ht1 hlast hn1 hn7 hid hT1 hT2 hwl hwh hl hel hB
 go_enter Try.func55, Try.ntmps55
 go_upto_region 1 with (fail)
 rw [HW.out]
 have HC := zh hC
 clear hC HW
 go_upto_region 6 with (go_at_call 23; refine (Htip.out).mono ?_; rintro e w3 ⟨rfl, hB⟩; have HB3 := zh (HB1.out.trans (hB.mono HB1.out.size)); have hcr := (hB.block w.heap.size (Array.getElem?_eq_some_iff.1 HC.out).1).trans HC.out; have HT3 := zh (HT1.out.keeps hB.block); clear hB q0 q1 q2)
 have hc2 : w3.cell? ⟨w.heap.size, 2, none⟩ = some (.int .i64 (T : Int)) := by rw [cell_of_row _ _ _ _ _ _ hcr]; rfl
 have Hcr := zh hcr
 have Hcl := zh (Array.getElem?_eq_some_iff.1 hcr).1
 have Hcp := zh (fun (W : World) (hR : RegT.Grow w3.drew W) => copy_w S gt B bt v es W ((HT3.out.keeps (Keeps.refl w3).drew).keeps hR.block) Hnn.out.2.2.1 Hnn.out.2.2.2.1)
 clear hcr HC HB1 HT1 Htip a1 a1' a1'' a2 a2' a3 a4 a4' a5 a5' a5'' a6 a6' a7 a8 a9 a9'
 apply RegT.wp_region_T rfl _ 8 rfl (by kernel_rfl) RegT.Grow RegT.Grow.refl RegT.Grow.trans
 ·
  apply RegT.T_pure rfl rfl rfl
  · exact fun W hR => load_row 85 (.tmp 5) rfl rfl ((hR.block _ Hcl.out).trans Hcr.out) Try.underlying85 rfl (show _ = some 3 by kernel_rfl)
  simp only [List.set_cons_succ, List.set_cons_zero, Nat.reduceAdd]
  iterate 3
   apply RegT.T_pure rfl rfl rfl
   · intro W hR; clear hR; go_simp; rfl
   simp only [List.set_cons_succ, List.set_cons_zero, Nat.reduceAdd]
  apply RegT.T_pred rfl rfl rfl (NewTk w3.heap.size B bt es) (fun _ _ h => h) (fun y x z hR h => h.keeps hR.block)
  · intro W hR hf0
    have Hc := zh (Hcp.out W hR)
    have hsz : w3.heap.size ≤ W.heap.size := hR.size
    have Hz := zh hsz
    clear hR hf0 hsz
    go_simp
    exact RegT.OpOK_enter Hc.out (fun e w' ⟨N, v', he, hN, ht, hB⟩ => ⟨_, he, ⟨N, v', rfl, Nat.le_trans Hz.out hN, ht.mono fun b _ h => Nat.le_trans Hz.out h⟩, hB⟩)
  intro v70
  simp only [List.set_cons_succ, List.set_cons_zero, Nat.reduceAdd]
  iterate 2
   apply RegT.T_pure rfl rfl rfl
   · intro W hR; have h0 := Keeps.cell hR.block hc2; clear hR; go_simp; rfl
   simp only [List.set_cons_succ, List.set_cons_zero, Nat.reduceAdd]
  apply RegT.T_pred rfl rfl rfl (NodeV n id T term who B bt es w3.heap.size) (fun _ _ h => h) (fun y x z hR h => h.keeps hR.block)
  · intro W hR hf0
    obtain ⟨N, v', rfl, hN, ht⟩ := (show NewTk w3.heap.size B bt es v70 W from hf0 _ (.head _) (by kernel_rfl) (.inl rfl))
    have Hn := zh hN
    have Ht := zh ht
    clear hR hf0 hN ht
    go_simp
    exact RegT.OpOK_value ⟨⟨_, _, rfl, Hn.out, Ht.out⟩, Below.refl _ _⟩
  intro v73
  simp only [List.set_cons_succ, List.set_cons_zero, Nat.reduceAdd]
  refine RegT.T_tail (fun W hR hf0 => ?_)
  obtain ⟨N, v', rfl, hN, htk⟩ := (show NodeV n id T term who B bt es w3.heap.size v73 W from hf0 _ (.head _) (.inl rfl))
  have hBW : Below w.heap.size w W := HB3.out.trans (((Below.refl w3.heap.size w3).drew.trans hR).mono HB3.out.size)
  have hsz3 : w.heap.size ≤ w3.heap.size := HB3.out.size
  have hszW : w3.heap.size ≤ W.heap.size := hR.size
  have hnd : NdAt (ext (fun _ => 9) w.heap.size i) (W.alloc (.cells #[.int .i64 (n : Int), .int .i64 (id : Int), .int .i64 (T : Int), .int .u64 (term : Int), .int .i64 who, .pointer (some ⟨N, 0, none⟩), .int .u64 0, .int .u8 0, .int .i64 (-1), .int .i64 0, .int .i64 (T : Int), .int .i64 0, .int .u64 0, .bool false, .bool false, .bool false, .bool false, .bool false, .bool false, .bool false, .int .u64 0, .int .u64 0, .int .u64 0, .int .u64 0, .int .u64 0, .int .u64 0, .int .u64 0, .int .u64 0, .int .u64 0, .int .u64 0, .int .u64 0, .int .u64 0, .int .u64 0, .int .u64 0] 95)) i W.heap.size N { newRf n id T term who B bt es with commit := 0 } :=
   ⟨hi, heap_alloc_new W _, ext_ge (by omega), v', ((htk.mono (S' := fun b => w3.heap.size ≤ b ∧ b < W.heap.size) fun b hb h => ⟨h, hb⟩).keeps ((Keeps.refl W).alloc _)).mono fun b hb h => ⟨ext_ge (by have := h.1; omega), fun e => by have := h.2; omega⟩⟩
  have HT4 := zh ((HT3.out.keeps ((Keeps.refl w3).drew.trans hR.block)).keeps ((Keeps.refl W).alloc (.cells #[.int .i64 (n : Int), .int .i64 (id : Int), .int .i64 (T : Int), .int .u64 (term : Int), .int .i64 who, .pointer (some ⟨N, 0, none⟩), .int .u64 0, .int .u8 0, .int .i64 (-1), .int .i64 0, .int .i64 (T : Int), .int .i64 0, .int .u64 0, .bool false, .bool false, .bool false, .bool false, .bool false, .bool false, .bool false, .int .u64 0, .int .u64 0, .int .u64 0, .int .u64 0, .int .u64 0, .int .u64 0, .int .u64 0, .int .u64 0, .int .u64 0, .int .u64 0, .int .u64 0, .int .u64 0, .int .u64 0, .int .u64 0] 95)))
  have HN4 := zh hnd
  have HB4 := zh (hBW.alloc (by omega) (.cells #[.int .i64 (n : Int), .int .i64 (id : Int), .int .i64 (T : Int), .int .u64 (term : Int), .int .i64 who, .pointer (some ⟨N, 0, none⟩), .int .u64 0, .int .u8 0, .int .i64 (-1), .int .i64 0, .int .i64 (T : Int), .int .i64 0, .int .u64 0, .bool false, .bool false, .bool false, .bool false, .bool false, .bool false, .bool false, .int .u64 0, .int .u64 0, .int .u64 0, .int .u64 0, .int .u64 0, .int .u64 0, .int .u64 0, .int .u64 0, .int .u64 0, .int .u64 0, .int .u64 0, .int .u64 0, .int .u64 0, .int .u64 0] 95))
  have HP := zh (show w.heap.size ≤ W.heap.size by omega)
  clear hR hf0 hN htk hBW hsz3 hszW hnd hc2 Hcp
  simp only [List.drop_succ_cons, List.drop_zero]
  go_upto_region 7 with (fail)
  generalize W.alloc (.cells #[.int .i64 (n : Int), .int .i64 (id : Int), .int .i64 (T : Int), .int .u64 (term : Int), .int .i64 who, .pointer (some ⟨N, 0, none⟩), .int .u64 0, .int .u8 0, .int .i64 (-1), .int .i64 0, .int .i64 (T : Int), .int .i64 0, .int .u64 0, .bool false, .bool false, .bool false, .bool false, .bool false, .bool false, .bool false, .int .u64 0, .int .u64 0, .int .u64 0, .int .u64 0, .int .u64 0, .int .u64 0, .int .u64 0, .int .u64 0, .int .u64 0, .int .u64 0, .int .u64 0, .int .u64 0, .int .u64 0, .int .u64 0] 95) = w4 at *
  generalize W.heap.size = P at *
  have hp6 : w4.cell? ⟨P, 6, none⟩ = some (.int .u64 0) := HN4.out.c 6
  have hf6 := HN4.out.frozen 6
  have Hbs := zh (base_w S gt B bt v es w4 HT4.out)
  go_upto_region 8 with (go_at_call 42; refine (Hbs.out).mono ?_; rintro e w5 ⟨rfl, hB⟩; have H5 := zh (HN4.out.move (own' := ext (fun _ => 9) w.heap.size i) (fun b hb e => ⟨e, hB.block b hb⟩)); have HB5 := zh (HB4.out.trans (hB.mono HB4.out.size)); have hp6 : w5.cell? ⟨P, 6, none⟩ = some (.int .u64 0) := H5.out.c 6; have hf6 := H5.out.frozen 6; clear hB)
  have H6 := zh (H5.out.set 6 (.int .u64 (B : Int)) (newRf n id T term who B bt es) rfl rfl rfl rfl)
  have HB6 := zh (HB5.out.setCell (p := ⟨P, 6, none⟩) HP.out (.int .u64 (B : Int)))
  generalize w5.setCell ⟨P, 6, none⟩ (.int .u64 (B : Int)) = w6 at *
  have Hdr := zh (draw_w (ext (fun _ => 9) w.heap.size i) i P N (newRf n id T term who B bt es) w6 H6.out (by show T ≤ 20; exact Hnn.out.2.1) d hd)
  go_wp2_with (go_at_call 105; refine (Hdr.out).mono ?_; rintro e w7 ⟨⟨z, rfl⟩, h7, hm7⟩; have H7 := zh h7; have HM7 := zh hm7; clear h7 hm7)
  go_ret2
  exact ⟨P, N, rfl, H7.out, HB6.out.trans ⟨HM7.out.t.os, HM7.out.t.tape, HM7.out.t.output, HM7.out.t.size, fun b hb => HM7.out.same (Nat.lt_of_lt_of_le hb HB6.out.size) (by rw [ext_lt hb]; omega)⟩⟩
 · rfl
 · kernel_rfl
end
section
variable {own own' : Own} {w w' : World} {i p q g t0 N : Nat} {who0 : Int} {r : RS.Rf} {x : Ov} {o : RS.Ou} {M : Nat}
def ToldP (own : Own) (w : World) (L : Nat → Prop) (i p : Nat) (r : RS.Rf) (o : RS.Ou) (k err : Int) (e : Ending) (w' : World) : Prop :=
 ∃ x own' g, e = .returned (.tuple #[.int .u64 k, .agg (Ov.cells x), .int .i64 err]) ∧ NdAt own' w' i p g r ∧ OvAt w' (fun b => own' b = 7) x o ∧ Mv L own w own' w'
theorem Told.prop {L : Nat → Prop} {W : World} {X : Array Value} (h : Told own w L i p r o (.returned (.agg X)) W) (k err : Int) : ToldP own w L i p r o k err (.returned (.tuple #[.int .u64 k, .agg X, .int .i64 err])) W := by
 obtain ⟨x, own', g, e, h1, h2, h3⟩ := h
 cases e
 exact ⟨x, own', g, rfl, h1, h2, h3⟩
theorem ov_none (S : Foot) : OvAt w S Ov.zero RS.Ou.none := ⟨rfl, .inl ⟨rfl, rfl⟩, .inl ⟨rfl, rfl⟩⟩
set_option maxRecDepth 100000 in
set_option maxHeartbeats 2000000 in
theorem prop_no_w (own : Own) (i p g : Nat) (r : RS.Rf) (w : World) (h : NdAt own w i p g r) (hr : r.role ≠ 3) (P : Option Addr) (n c : Nat) :
 Calls Try.prog 56 #[.pointer (some ⟨p, 0, none⟩), .slice P n c] w (ToldP own w (fun l => l = i ∨ l = 7) i p r RS.Ou.none 0 250) := by
 have hi7 := h.hi
 have e1 : ((r.role : Int) != 3) = true := by simp; omega
 have e2 : (r.role != 3) = true := by simp; omega
 obtain ⟨w1, hw1⟩ : ∃ w1, w.alloc (.cells #[.bool false, .bool false, .int .u8 0, .int .u64 0, .int .u64 0, .int .u64 0, .int .u64 0, .int .u64 0, .bool false, .slice none 0 0, .slice none 0 0, .bool false, .int .u64 0, .slice none 0 0, .slice none 0 0, .slice none 0 0] 100) = w1 := ⟨_, rfl⟩
 have H1 := zh (h.mv (L := fun _ => False) (Mv.alloc own w (.cells #[.bool false, .bool false, .int .u8 0, .int .u64 0, .int .u64 0, .int .u64 0, .int .u64 0, .int .u64 0, .bool false, .slice none 0 0, .slice none 0 0, .bool false, .int .u64 0, .slice none 0 0, .slice none 0 0, .slice none 0 0] 100) 9) id)
 have HX1 := zh (Bx.new own w #[.bool false, .bool false, .int .u8 0, .int .u64 0, .int .u64 0, .int .u64 0, .int .u64 0, .int .u64 0, .bool false, .slice none 0 0, .slice none 0 0, .bool false, .int .u64 0, .slice none 0 0, .slice none 0 0, .slice none 0 0] 100)
 have HM1 := zh ((Mv.refl (fun l => l = i ∨ l = 7) own w).alloc7 (.cells #[.bool false, .bool false, .int .u8 0, .int .u64 0, .int .u64 0, .int .u64 0, .int .u64 0, .int .u64 0, .bool false, .slice none 0 0, .slice none 0 0, .bool false, .int .u64 0, .slice none 0 0, .slice none 0 0, .slice none 0 0] 100))
 rw [hw1] at H1 HX1 HM1
 have HW := zh hw1
 clear h hw1 hr
 generalize ext own w.heap.size 9 = own1 at *
 have HN := zh (none_w own1 i p g r w1 H1.out)
 have hrl := H1.out.crole
 have HZ := zh HX1.out.row
 go_enter Try.func56, Try.ntmps56
 go_upto_region 1 with (fail)
 rw [HW.out]
 go_wp2_with (first
  | (refine wpList_store_rowTo rfl 100 (.tmp 5) (.tmp 19) rfl rfl _ (Ov.cells Ov.zero) rfl rfl 100 _ HZ.out (show _ = some 16 by kernel_rfl) rfl (ov_one Ov.zero) ?_)
  | (go_at_call 106; refine (HN.out).mono ?_; rintro e w2 ⟨rfl, rfl⟩))
 refine bodyPost_ret (results_mid_row rfl _ _ w.heap.size 100 _ _ _ rfl (setRow_heap _ _ _ _ _ _ HZ.out) rfl Try.underlying100 (show _ = some 16 by kernel_rfl)) rfl ?_
 trace_state
 exact (Told.fin H1.out (ov_none _) HM1.out HX1.out (Nat.le_refl _)).prop 0 250
theorem rdb_move {w w' : World} {v : Value} {l : List UInt8} {S : Foot} (h : RdB w v l) (t : Touch S w w') (hS : ∀ b, ¬ S b) : RdB w' v l := h.keeps fun b hb => t.block b hb (hS b)
set_option maxRecDepth 100000 in
set_option maxHeartbeats 2000000 in
theorem prop_yes_w (own : Own) (i p g : Nat) (r : RS.Rf) (w : World) (h : NdAt own w i p g r) (M : Nat) (hb : Nb M r) (hM : M ≤ 90000) (hr : r.role = 3) (d : List UInt8) (P : Option Addr) (n c : Nat) (hd : RdB w (.slice P n c) d) (hdl : d.length ≤ 3000) :
 Calls Try.prog 56 #[.pointer (some ⟨p, 0, none⟩), .slice P n c] w (ToldP own w (fun l => l = i ∨ l = 7) i p (r.propose d).1 (r.propose d).2 ((r.last + 1 : Nat) : Int) 0) := by
 have hi7 := h.hi
 have e1 : ((r.role : Int) != 3) = false := by simp; omega
 have e2 : (r.role != 3) = false := by simp; omega
 have hn : n = d.length := by obtain ⟨_, _, e, _⟩ := hd; injection e
 have e3 : decide ((3000 : Int) < (n : Int)) = false := by simp; omega
 have e4 : decide (3000 < n) = false := by simp; omega
 have Hpr := zh (show r.propose d = ((r.add d).see, ((r.add d).see).updates (r.addO RS.Ou.none d)) from by unfold RS.Rf.propose; rw [if_neg (by omega)])
 have Hb := zh hb
 have hB1 : Below w.heap.size w (w.alloc (.cells #[.bool false, .bool false, .int .u8 0, .int .u64 0, .int .u64 0, .int .u64 0, .int .u64 0, .int .u64 0, .bool false, .slice none 0 0, .slice none 0 0, .bool false, .int .u64 0, .slice none 0 0, .slice none 0 0, .slice none 0 0] 100)) := (Below.refl _ _).alloc (Nat.le_refl _) _
 have hd1 := hd.below hB1
 obtain ⟨w1, hw1⟩ : ∃ w1, w.alloc (.cells #[.bool false, .bool false, .int .u8 0, .int .u64 0, .int .u64 0, .int .u64 0, .int .u64 0, .int .u64 0, .bool false, .slice none 0 0, .slice none 0 0, .bool false, .int .u64 0, .slice none 0 0, .slice none 0 0, .slice none 0 0] 100) = w1 := ⟨_, rfl⟩
 have H1 := zh (h.mv (L := fun _ => False) (Mv.alloc own w (.cells #[.bool false, .bool false, .int .u8 0, .int .u64 0, .int .u64 0, .int .u64 0, .int .u64 0, .int .u64 0, .bool false, .slice none 0 0, .slice none 0 0, .bool false, .int .u64 0, .slice none 0 0, .slice none 0 0, .slice none 0 0] 100) 9) id)
 have HX1 := zh (Bx.new own w #[.bool false, .bool false, .int .u8 0, .int .u64 0, .int .u64 0, .int .u64 0, .int .u64 0, .int .u64 0, .bool false, .slice none 0 0, .slice none 0 0, .bool false, .int .u64 0, .slice none 0 0, .slice none 0 0, .slice none 0 0] 100)
 have HM1 := zh ((Mv.refl (fun l => l = i ∨ l = 7) own w).alloc7 (.cells #[.bool false, .bool false, .int .u8 0, .int .u64 0, .int .u64 0, .int .u64 0, .int .u64 0, .int .u64 0, .bool false, .slice none 0 0, .slice none 0 0, .bool false, .int .u64 0, .slice none 0 0, .slice none 0 0, .slice none 0 0] 100))
 rw [hw1] at H1 HX1 HM1 hd1
 have HW := zh hw1
 have HD1 := zh hd1
 clear h hw1 hr hd hb hB1 hd1
 have Hn := zh hn
 have Hdl := zh hdl
 clear hn hdl
 generalize ext own w.heap.size 9 = own1 at *
 generalize hq : w1.heap.size = q at *
 have Hbeg := zh (begin_w own1 i p g r w1 H1.out)
 rw [hq] at Hbeg
 clear hq
 have HN := zh (none_w own1 i p g r w1 H1.out)
 have hrl := H1.out.crole
 go_enter Try.func56, Try.ntmps56
 go_upto_region 1 with (fail)
 rw [HW.out]
 go_upto_region 8 with (first
  | (go_at_call 106; refine (HN.out).mono ?_; rintro e w2 ⟨rfl, rfl⟩)
  | (go_at_call 107; refine (Hbeg.out).mono ?_; rintro e w2 ⟨rfl, own2, h2, hm2⟩; have H2 := zh h2; have HX2 := zh (HX1.out.mv hm2 id); have HM2 := zh (HM1.out.trans (hm2.mono fun l e => e.elim)); have HD2 := zh (rdb_move HD1.out hm2.t (fun _ e => e)); clear h2 hm2))
 clear H1 HX1 HM1 HW HN Hbeg hrl HD1
 have Hadd := zh (stadd_w own2 i p q g r.term r.who r Ov.zero RS.Ou.none w2 H2.out M Hb.out rfl rfl rfl rfl d P n c HD2.out Hdl.out)
 go_upto_region 9 with (go_at_call 108; refine (Hadd.out).mono ?_; rintro e w3 ⟨rfl, own3, x3, h3, hx3, hm3⟩; have H3 := zh h3; have HX3 := zh (HX2.out.mv hm3 (by omega)); have HM3 := zh (HM2.out.trans hm3); clear h3 hx3 hm3)
 have Hnb := zh (Hb.out.add (by omega) Hdl.out)
 have Hsee := zh (see_w own3 i p q g r.term r.who (r.add d) x3 (r.addO RS.Ou.none d) w3 H3.out (M + 1) Hnb.out)
 go_upto_region 10 with (go_at_call 109; refine (Hsee.out).mono ?_; rintro e w4 ⟨⟨v, rfl⟩, own4, x4, h4, hA4, hm4⟩; have H4 := zh h4; have HX4 := zh (HX3.out.mv hm4 (by omega)); have HM4 := zh (HM3.out.trans (hm4.mono fun l e => .inl e)); clear h4 hA4 hm4)
 have Hnb2 := zh ((Hnb.out.mono (M' := 3 * M + 3) (by omega) (by omega)).see (by show r.base + (r.es ++ [(r.term, d)]).length ≤ _; have := Hb.out.base; have := Hb.out.len; simp; omega))
 have Hup := zh (updates_w own4 i p q g r.term r.who (r.add d).see x4 (r.addO RS.Ou.none d) w4 H4.out (3 * M + 3) Hnb2.out (by show (0 : Nat) ≤ 900; decide) (by show (0 : Nat) ≤ 900; decide))
 go_upto_region 11 with (go_at_call 110; refine (Hup.out).mono ?_; rintro e w5 ⟨⟨v, rfl⟩, own5, x5, h5, hA5, hm5⟩; have H5 := zh h5; have HX5 := zh (HX4.out.mv hm5 (by decide)); have HM5 := zh (HM4.out.trans (hm5.mono fun l e => .inr e)); clear h5 hA5 hm5)
 clear H2 HX2 HM2 H3 HX3 HM3 H4 HX4 HM4 Hadd Hsee Hup HD2 Hnb Hnb2
 have HDn := zh (nddone_w _ i p q g r.term r.who _ _ _ _ H5.out)
 generalize hl1 : ((r.last + 1 : Nat) : Int) = last1 at *
 go_wp2_with (first
  | (refine wpList_store_rowTo rfl 100 (.tmp 5) (.tmp 36) rfl rfl _ (Ov.cells x9) rfl rfl 100 _ HZ.out (show _ = some 16 by kernel_rfl) rfl (ov_one x9) ?_)
  | (go_at_call 111; refine (HDn.out).mono ?_; rintro e w9 ⟨x9, own9, g9, rfl, hn9, ho9, hm9⟩; have HN9 := zh hn9; have HO9 := zh ho9; have HM9 := zh (HM5.out.trans (hm9.mono fun l e => .inr e)); have HX9 := zh (HX5.out.mv hm9 (by decide)); have HZ := zh HX9.out.row; clear hn9 ho9 hm9))
 refine bodyPost_ret (results_mid_row rfl _ _ w.heap.size 100 _ _ _ rfl (setRow_heap _ _ _ _ _ _ HZ.out) rfl Try.underlying100 (show _ = some 16 by kernel_rfl)) rfl ?_
 rw [Hpr.out]
 exact (Told.fin HN9.out HO9.out HM9.out HX9.out (Nat.le_refl _)).prop _ 0
end
end Go.Proofs.Yteellfgiejnigaa
