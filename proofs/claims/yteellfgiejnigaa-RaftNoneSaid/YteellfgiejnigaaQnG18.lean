/- A tick; a node is made; a proposal: the walks. -/
import Derived.Test.YteellfgiejnigaaQnG17
namespace Go.Proofs.Yteellfgiejnigaa
open Go.ChangeShapes Go.WideShapes Go.ChangeAt Go.RowKit
set_option linter.unusedVariables false
section
variable {own own' : Own} {w w' : World} {i p q g t0 N : Nat} {who0 : Int} {r : RS.Rf} {x : Ov} {o : RS.Ou} {M : Nat}
theorem tick_w (own : Own) (i p g : Nat) (r : RS.Rf) (w : World) (h : NdAt own w i p g r) (M : Nat) (hb : Nb M r) (hM : M ≤ 90000) (h0 : 0 ≤ r.beat) (d : Nat) (hd : d < 2 ^ 64) :
    Calls Try.prog 58 #[.pointer (some ⟨p, 0, none⟩), .int .u64 (d : Int)] w (Told own w (fun l => l = i ∨ l = 7) i p (r.tick d).1 (r.tick d).2) := by
  by_cases hr : r.role = 3
  · by_cases hbe : r.beat - 1 ≤ 0
    · have e : r.tick d = (({ r with beat := r.beat - 1 } : RS.Rf).pulse, ({ r with beat := r.beat - 1 } : RS.Rf).pulse.updates RS.Ou.none) := by
        unfold RS.Rf.tick; rw [if_pos hr]; exact if_pos hbe
      rw [e]
      exact tick_a1_w own i p g r w h M hb hM d hd hr h0 hbe
    · have e : r.tick d = (({ r with beat := r.beat - 1 } : RS.Rf), RS.Ou.none) := by
        unfold RS.Rf.tick; rw [if_pos hr]; exact if_neg hbe
      rw [e]
      exact tick_a2_w own i p g r w h M hb hM d hd hr hbe
  · by_cases hl : 0 < r.left - 1
    · have e : r.tick d = (({ r with quiet := min (r.quiet + 1) (r.T : Int), left := r.left - 1 } : RS.Rf), RS.Ou.none) := by
        unfold RS.Rf.tick; rw [if_neg hr]; exact if_pos hl
      rw [e]
      exact tick_b1_w own i p g r w h M hb hM d hd hr hl
    · by_cases h1 : r.role = 0
      · have e : r.tick d = (({ ({ r with quiet := min (r.quiet + 1) (r.T : Int), left := r.left - 1 } : RS.Rf) with role := 1, left := 2 * (r.T : Int), round := r.round + 1 } : RS.Rf).alone, ({ ({ r with quiet := min (r.quiet + 1) (r.T : Int), left := r.left - 1 } : RS.Rf) with role := 1, left := 2 * (r.T : Int), round := r.round + 1 } : RS.Rf).alone.ask RS.Ou.none 1) := by
          unfold RS.Rf.tick; rw [if_neg hr]; dsimp only; rw [if_neg hl, if_pos h1]
        rw [e]
        exact tick_b2_w own i p g r w h M hb hM d hd h1 hl
      · by_cases h2 : r.role = 1
        · by_cases h3 : r.most = true
          · have hc : r.role = 1 ∧ ({ r with quiet := min (r.quiet + 1) (r.T : Int), left := r.left - 1 } : RS.Rf).most = true ∧ r.term < 18446744073709551615 := ⟨h2, h3, by have h1 := hb.term; have h2 := hb.hM; omega⟩
            by_cases h4 : ({ ({ r with quiet := min (r.quiet + 1) (r.T : Int), left := r.left - 1 } : RS.Rf) with role := 2, who := (r.id : Int), leader := -1, left := (r.T : Int), term := r.term + 1 } : RS.Rf).alone.most = true
            · have e : r.tick d = ({ ({ r with quiet := min (r.quiet + 1) (r.T : Int), left := r.left - 1 } : RS.Rf) with role := 2, who := (r.id : Int), leader := -1, left := (r.T : Int), term := r.term + 1 } : RS.Rf).alone.lead (({ ({ r with quiet := min (r.quiet + 1) (r.T : Int), left := r.left - 1 } : RS.Rf) with role := 2, who := (r.id : Int), leader := -1, left := (r.T : Int), term := r.term + 1 } : RS.Rf).alone.ask RS.Ou.none 3) := by
                unfold RS.Rf.tick; rw [if_neg hr]; dsimp only; rw [if_neg hl, if_neg h1, if_pos hc]; exact if_pos h4
              rw [e]
              exact tick_b3b_w own i p g r w h M hb hM d hd h2 hl h3 h4
            · have e : r.tick d = (({ ({ r with quiet := min (r.quiet + 1) (r.T : Int), left := r.left - 1 } : RS.Rf) with role := 2, who := (r.id : Int), leader := -1, left := (r.T : Int), term := r.term + 1 } : RS.Rf).alone, ({ ({ r with quiet := min (r.quiet + 1) (r.T : Int), left := r.left - 1 } : RS.Rf) with role := 2, who := (r.id : Int), leader := -1, left := (r.T : Int), term := r.term + 1 } : RS.Rf).alone.ask RS.Ou.none 3) := by
                unfold RS.Rf.tick; rw [if_neg hr]; dsimp only; rw [if_neg hl, if_neg h1, if_pos hc]; exact if_neg h4
              rw [e]
              exact tick_b3a_w own i p g r w h M hb hM d hd h2 hl h3 (by simpa using h4)
          · have hc : ¬ (r.role = 1 ∧ ({ r with quiet := min (r.quiet + 1) (r.T : Int), left := r.left - 1 } : RS.Rf).most = true ∧ r.term < 18446744073709551615) := fun h => h3 h.2.1
            have e : r.tick d = (({ r with quiet := min (r.quiet + 1) (r.T : Int), left := r.left - 1 } : RS.Rf).follow d, RS.Ou.none) := by
              unfold RS.Rf.tick; rw [if_neg hr]; dsimp only; rw [if_neg hl, if_neg h1, if_neg hc]
            rw [e]
            exact tick_b4d_w own i p g r w h M hb hM d hd h2 hl (by simpa using h3)
        · have hc : ¬ (r.role = 1 ∧ ({ r with quiet := min (r.quiet + 1) (r.T : Int), left := r.left - 1 } : RS.Rf).most = true ∧ r.term < 18446744073709551615) := fun h => h2 h.1
          have e : r.tick d = (({ r with quiet := min (r.quiet + 1) (r.T : Int), left := r.left - 1 } : RS.Rf).follow d, RS.Ou.none) := by
            unfold RS.Rf.tick; rw [if_neg hr]; dsimp only; rw [if_neg hl, if_neg h1, if_neg hc]
          rw [e]
          exact tick_b4c_w own i p g r w h M hb hM d hd (by have := hb.role; omega) hl
/-- A node that is made. -/
def newRf (n id T term : Nat) (who : Int) (B bt : Nat) (es : List Ent) : RS.Rf := { n := n, id := id, T := T, term := term, who := who, base := B, bt := bt, es := es, commit := B, role := 0, leader := -1, left := 0, quiet := (T : Int), beat := 0, round := 0, sides := fun _ => false, next := fun _ => 0, mt := fun _ => 0 }
/-- A node, built. -/
def NodeV (n id T term : Nat) (who : Int) (B bt : Nat) (es : List Ent) (B0 : Nat) (y : Value) (W : World) : Prop := ∃ N v', y = .agg #[.int .i64 (n : Int), .int .i64 (id : Int), .int .i64 (T : Int), .int .u64 (term : Int), .int .i64 who, .pointer (some ⟨N, 0, none⟩), .int .u64 0, .int .u8 0, .int .i64 (-1), .int .i64 0, .int .i64 (T : Int), .int .i64 0, .int .u64 0, .bool false, .bool false, .bool false, .bool false, .bool false, .bool false, .bool false, .int .u64 0, .int .u64 0, .int .u64 0, .int .u64 0, .int .u64 0, .int .u64 0, .int .u64 0, .int .u64 0, .int .u64 0, .int .u64 0, .int .u64 0, .int .u64 0, .int .u64 0, .int .u64 0] ∧ B0 ≤ N ∧ TkAt W (fun b => B0 ≤ b) N B bt v' es
theorem NodeV.keeps {n id T term : Nat} {who : Int} {B bt : Nat} {es : List Ent} {B0 : Nat} {y : Value} {W W' : World} (h : NodeV n id T term who B bt es B0 y W) (hk : Keeps W W') : NodeV n id T term who B bt es B0 y W' := by
  obtain ⟨N, v', e, h1, h2⟩ := h; exact ⟨N, v', e, h1, h2.keeps hk⟩
/-- A new node is told. -/
def NewP (i : Nat) (r : RS.Rf) (w : World) (e : Ending) (w' : World) : Prop :=
  ∃ P g, e = .returned (.tuple #[.pointer (some ⟨P, 0, none⟩), .int .i64 0]) ∧ NdAt (ext (fun _ => 9) w.heap.size i) w' i P g r ∧ Below w.heap.size w w'
set_option maxRecDepth 100000 in
set_option maxHeartbeats 2000000 in
theorem new_ok_w (i : Nat) (hi : i < 7) (n id T term : Nat) (who : Int) (S : Foot) (gt B bt : Nat) (v : Value) (es : List Ent) (d : Nat) (w : World) (ht : TkAt w S gt B bt v es) (hn1 : 1 ≤ n) (hn7 : n ≤ 7) (hid : id < n) (hT1 : 1 ≤ T) (hT2 : T ≤ 20) (hwl : -1 ≤ who) (hwh : who < (n : Int)) (hl : es.length ≤ 1000000) (hel : ∀ e ∈ es, e.2.length ≤ 1000000) (hB : B + es.length ≤ 4611686018427387904) (hd : d < 2 ^ 64) :
    Calls Try.prog 55 #[.agg #[.int .i64 (n : Int), .int .i64 (id : Int), .int .i64 (T : Int)], .int .u64 (term : Int), .int .i64 who, .pointer (some ⟨gt, 0, none⟩), .int .u64 (d : Int)] w (NewP i ((newRf n id T term who B bt es).draw d) w) := by
  obtain ⟨w1, hw1⟩ : ∃ w1, w.alloc (.cells #[.int .i64 (n : Int), .int .i64 (id : Int), .int .i64 (T : Int)] 85) = w1 := ⟨_, rfl⟩
  have hB1 : Below w.heap.size w (w.alloc (.cells #[.int .i64 (n : Int), .int .i64 (id : Int), .int .i64 (T : Int)] 85)) := (Below.refl _ _).alloc (Nat.le_refl _) _
  have hC := heap_alloc_new w (.cells #[.int .i64 (n : Int), .int .i64 (id : Int), .int .i64 (T : Int)] 85)
  rw [hw1] at hB1 hC
  have HW := Lib.hid hw1
  have HB1 := Lib.hid hB1
  have ht1 := ht.keeps hB1.block
  have HT1 := Lib.hid ht1
  have Htip := Lib.hid (tip_w S gt B bt v es w1 ht1 hl)
  obtain ⟨last, hlast⟩ : ∃ y, y = B + es.length := ⟨_, rfl⟩
  have Hl := Lib.hid hlast
  rw [← Hl.out] at Htip
  have q0 : w1.cell? ⟨w.heap.size, 0, none⟩ = some (.int .i64 (n : Int)) := by rw [cell_of_row _ _ _ _ _ _ hC]; rfl
  have q1 : w1.cell? ⟨w.heap.size, 1, none⟩ = some (.int .i64 (id : Int)) := by rw [cell_of_row _ _ _ _ _ _ hC]; rfl
  have q2 : w1.cell? ⟨w.heap.size, 2, none⟩ = some (.int .i64 (T : Int)) := by rw [cell_of_row _ _ _ _ _ _ hC]; rfl
  have a1 : decide ((n : Int) < 1) = false := by simp; omega
  have a1' : decide (n < 1) = false := by simp; omega
  have a1'' : decide (n = 0) = false := by simp; omega
  have a2 : decide ((7 : Int) < (n : Int)) = false := by simp; omega
  have a2' : decide (7 < n) = false := by simp; omega
  have a3 : decide ((id : Int) < 0) = false := by simp
  have a4 : decide ((n : Int) ≤ (id : Int)) = false := by simp; omega
  have a4' : decide (n ≤ id) = false := by simp; omega
  have a5 : decide ((T : Int) < 1) = false := by simp; omega
  have a5' : decide (T < 1) = false := by simp; omega
  have a5'' : decide (T = 0) = false := by simp; omega
  have a6 : decide ((1000 : Int) < (T : Int)) = false := by simp; omega
  have a6' : decide (1000 < T) = false := by simp; omega
  have a7 : decide (who < -1) = false := by simp; omega
  have a8 : decide ((n : Int) ≤ who) = false := by simp; omega
  have a9 : decide ((4611686018427387904 : Int) < (last : Int)) = false := by simp; omega
  have a9' : decide (4611686018427387904 < last) = false := by simp; omega
  have Hnn := Lib.hid (And.intro hn7 (And.intro hT2 (And.intro hl (And.intro hel hB))))
  have hpn : 0 < n := by omega
  have hpT : 0 < T := by omega
  clear hw1 hB1 ht ht1 hlast hn1 hn7 hid hT1 hT2 hwl hwh hl hel hB
  go_enter Try.func55, Try.ntmps55
  go_upto_region 1 with (fail)
  rw [HW.out]
  have HC := Lib.hid hC
  clear hC HW
  go_upto_region 6 with (go_at_call 23; refine (Htip.out).mono ?_; rintro e w3 ⟨rfl, hB⟩; have HB3 := Lib.hid (HB1.out.trans (hB.mono HB1.out.size)); have hcr := (hB.block w.heap.size (Array.getElem?_eq_some_iff.1 HC.out).1).trans HC.out; have HT3 := Lib.hid (HT1.out.keeps hB.block); clear hB q0 q1 q2)
  have hc2 : w3.cell? ⟨w.heap.size, 2, none⟩ = some (.int .i64 (T : Int)) := by rw [cell_of_row _ _ _ _ _ _ hcr]; rfl
  have Hcr := Lib.hid hcr
  have Hcl := Lib.hid (Array.getElem?_eq_some_iff.1 hcr).1
  have Hcp := Lib.hid (fun (W : World) (hR : RegT.Grow w3.drew W) => copy_w S gt B bt v es W ((HT3.out.keeps (Keeps.refl w3).drew).keeps hR.block) Hnn.out.2.2.1 Hnn.out.2.2.2.1)
  clear hcr HC HB1 HT1 Htip a1 a1' a1'' a2 a2' a3 a4 a4' a5 a5' a5'' a6 a6' a7 a8 a9 a9'
  apply RegT.wp_region_T rfl _ 8 rfl (by kernel_rfl) RegT.Grow RegT.Grow.refl RegT.Grow.trans
  · apply RegT.T_pure rfl rfl rfl
    · exact fun W hR => load_row 85 (.tmp 5) rfl rfl ((hR.block _ Hcl.out).trans Hcr.out) Try.underlying85 rfl (show _ = some 3 by kernel_rfl)
    simp only [List.set_cons_succ, List.set_cons_zero, Nat.reduceAdd]
    apply RegT.T_pure rfl rfl rfl
    · intro W hR; clear hR; go_simp; rfl
    simp only [List.set_cons_succ, List.set_cons_zero, Nat.reduceAdd]
    apply RegT.T_pure rfl rfl rfl
    · intro W hR; clear hR; go_simp; rfl
    simp only [List.set_cons_succ, List.set_cons_zero, Nat.reduceAdd]
    apply RegT.T_pure rfl rfl rfl
    · intro W hR; clear hR; go_simp; rfl
    simp only [List.set_cons_succ, List.set_cons_zero, Nat.reduceAdd]
    apply RegT.T_pred rfl rfl rfl (NewTk w3.heap.size B bt es) (fun _ _ h => h) (fun y x z hR h => h.keeps hR.block)
    · intro W hR hf0
      have Hc := Lib.hid (Hcp.out W hR)
      have hsz : w3.heap.size ≤ W.heap.size := hR.size
      have Hz := Lib.hid hsz
      clear hR hf0 hsz
      go_simp
      exact RegT.OpOK_enter Hc.out (fun e w' ⟨N, v', he, hN, ht, hB⟩ => ⟨_, he, ⟨N, v', rfl, Nat.le_trans Hz.out hN, ht.mono fun b _ h => Nat.le_trans Hz.out h⟩, hB⟩)
    intro v70
    simp only [List.set_cons_succ, List.set_cons_zero, Nat.reduceAdd]
    apply RegT.T_pure rfl rfl rfl
    · intro W hR; clear hR; go_simp; rfl
    simp only [List.set_cons_succ, List.set_cons_zero, Nat.reduceAdd]
    apply RegT.T_pure rfl rfl rfl
    · intro W hR
      have hc := Keeps.cell hR.block hc2
      clear hR
      go_simp; rfl
    simp only [List.set_cons_succ, List.set_cons_zero, Nat.reduceAdd]
    apply RegT.T_pred rfl rfl rfl (NodeV n id T term who B bt es w3.heap.size) (fun _ _ h => h) (fun y x z hR h => h.keeps hR.block)
    · intro W hR hf0
      obtain ⟨N, v', rfl, hN, ht⟩ := (show NewTk w3.heap.size B bt es v70 W from hf0 _ (.head _) (by kernel_rfl) (.inl rfl))
      have Hn := Lib.hid hN
      have Ht := Lib.hid ht
      clear hR hf0 hN ht
      go_simp
      exact RegT.OpOK_value ⟨⟨_, _, rfl, Hn.out, Ht.out⟩, Below.refl _ _⟩
    intro v73
    simp only [List.set_cons_succ, List.set_cons_zero, Nat.reduceAdd]
    refine RegT.T_tail (fun W hR hf0 => ?_)
    obtain ⟨N, v', rfl, hN, htk⟩ := (show NodeV n id T term who B bt es w3.heap.size v73 W from hf0 _ (.head _) (.inl rfl))
    have hBW : Below w.heap.size w W := HB3.out.trans (((Below.refl w3.heap.size w3).drew.trans hR).mono HB3.out.size)
    have hsz3 : w.heap.size ≤ w3.heap.size := HB3.out.size
    have hszW : w3.heap.size ≤ W.heap.size := hR.size
    have hnd : NdAt (ext (fun _ => 9) w.heap.size i) (W.alloc (.cells #[.int .i64 (n : Int), .int .i64 (id : Int), .int .i64 (T : Int), .int .u64 (term : Int), .int .i64 who, .pointer (some ⟨N, 0, none⟩), .int .u64 0, .int .u8 0, .int .i64 (-1), .int .i64 0, .int .i64 (T : Int), .int .i64 0, .int .u64 0, .bool false, .bool false, .bool false, .bool false, .bool false, .bool false, .bool false, .int .u64 0, .int .u64 0, .int .u64 0, .int .u64 0, .int .u64 0, .int .u64 0, .int .u64 0, .int .u64 0, .int .u64 0, .int .u64 0, .int .u64 0, .int .u64 0, .int .u64 0, .int .u64 0] 95)) i W.heap.size N { newRf n id T term who B bt es with commit := 0 } :=
      ⟨hi, heap_alloc_new W _, ext_ge (by omega), v', ((htk.mono (S' := fun b => w3.heap.size ≤ b ∧ b < W.heap.size) fun b hb h => ⟨h, hb⟩).keeps ((Keeps.refl W).alloc _)).mono fun b hb h => ⟨ext_ge (by have := h.1; omega), fun e => by have := h.2; omega⟩⟩
    have HT4 := Lib.hid ((HT3.out.keeps ((Keeps.refl w3).drew.trans hR.block)).keeps ((Keeps.refl W).alloc (.cells #[.int .i64 (n : Int), .int .i64 (id : Int), .int .i64 (T : Int), .int .u64 (term : Int), .int .i64 who, .pointer (some ⟨N, 0, none⟩), .int .u64 0, .int .u8 0, .int .i64 (-1), .int .i64 0, .int .i64 (T : Int), .int .i64 0, .int .u64 0, .bool false, .bool false, .bool false, .bool false, .bool false, .bool false, .bool false, .int .u64 0, .int .u64 0, .int .u64 0, .int .u64 0, .int .u64 0, .int .u64 0, .int .u64 0, .int .u64 0, .int .u64 0, .int .u64 0, .int .u64 0, .int .u64 0, .int .u64 0, .int .u64 0] 95)))
    have HN4 := Lib.hid hnd
    have HB4 := Lib.hid (hBW.alloc (by omega) (.cells #[.int .i64 (n : Int), .int .i64 (id : Int), .int .i64 (T : Int), .int .u64 (term : Int), .int .i64 who, .pointer (some ⟨N, 0, none⟩), .int .u64 0, .int .u8 0, .int .i64 (-1), .int .i64 0, .int .i64 (T : Int), .int .i64 0, .int .u64 0, .bool false, .bool false, .bool false, .bool false, .bool false, .bool false, .bool false, .int .u64 0, .int .u64 0, .int .u64 0, .int .u64 0, .int .u64 0, .int .u64 0, .int .u64 0, .int .u64 0, .int .u64 0, .int .u64 0, .int .u64 0, .int .u64 0, .int .u64 0, .int .u64 0] 95))
    have HP := Lib.hid (show w.heap.size ≤ W.heap.size by omega)
    clear hR hf0 hN htk hBW hsz3 hszW hnd hc2 Hcp
    simp only [List.drop_succ_cons, List.drop_zero]
    go_upto_region 7 with (fail)
    generalize W.alloc (.cells #[.int .i64 (n : Int), .int .i64 (id : Int), .int .i64 (T : Int), .int .u64 (term : Int), .int .i64 who, .pointer (some ⟨N, 0, none⟩), .int .u64 0, .int .u8 0, .int .i64 (-1), .int .i64 0, .int .i64 (T : Int), .int .i64 0, .int .u64 0, .bool false, .bool false, .bool false, .bool false, .bool false, .bool false, .bool false, .int .u64 0, .int .u64 0, .int .u64 0, .int .u64 0, .int .u64 0, .int .u64 0, .int .u64 0, .int .u64 0, .int .u64 0, .int .u64 0, .int .u64 0, .int .u64 0, .int .u64 0, .int .u64 0] 95) = w4 at *
    generalize W.heap.size = P at *
    have hp6 : w4.cell? ⟨P, 6, none⟩ = some (.int .u64 0) := HN4.out.c 6
    have hf6 := HN4.out.frozen 6
    have Hbs := Lib.hid (base_w S gt B bt v es w4 HT4.out)
    go_upto_region 8 with (go_at_call 42; refine (Hbs.out).mono ?_; rintro e w5 ⟨rfl, hB⟩; have H5 := Lib.hid (HN4.out.move (own' := ext (fun _ => 9) w.heap.size i) (fun b hb e => ⟨e, hB.block b hb⟩)); have HB5 := Lib.hid (HB4.out.trans (hB.mono HB4.out.size)); have hp6 : w5.cell? ⟨P, 6, none⟩ = some (.int .u64 0) := H5.out.c 6; have hf6 := H5.out.frozen 6; clear hB)
    have H6 := Lib.hid (H5.out.set 6 (.int .u64 (B : Int)) (newRf n id T term who B bt es) rfl rfl rfl rfl)
    have HB6 := Lib.hid (HB5.out.setCell (p := ⟨P, 6, none⟩) HP.out (.int .u64 (B : Int)))
    generalize w5.setCell ⟨P, 6, none⟩ (.int .u64 (B : Int)) = w6 at *
    have Hdr := Lib.hid (draw_w (ext (fun _ => 9) w.heap.size i) i P N (newRf n id T term who B bt es) w6 H6.out (by show T ≤ 20; exact Hnn.out.2.1) d hd)
    go_wp2_with (go_at_call 105; refine (Hdr.out).mono ?_; rintro e w7 ⟨⟨z, rfl⟩, h7, hm7⟩; have H7 := Lib.hid h7; have HM7 := Lib.hid hm7; clear h7 hm7)
    go_ret2
    exact ⟨P, N, rfl, H7.out, HB6.out.trans ⟨HM7.out.t.os, HM7.out.t.tape, HM7.out.t.output, HM7.out.t.size, fun b hb => HM7.out.same (Nat.lt_of_lt_of_le hb HB6.out.size) (by rw [ext_lt hb]; omega)⟩⟩
  · rfl
  · kernel_rfl
end
end Go.Proofs.Yteellfgiejnigaa
