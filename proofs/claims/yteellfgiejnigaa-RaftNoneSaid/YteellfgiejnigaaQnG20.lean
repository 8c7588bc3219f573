/- One node alone: the walk of known. -/
import Derived.Test.YteellfgiejnigaaQnG19
import Derived.Lib.SlBytesConst
namespace Go.Proofs.Yteellfgiejnigaa
open Go.ChangeShapes Go.WideShapes Go.ChangeAt Go.RowKit
set_option linter.unusedVariables false
section
variable {own own' : Own} {w w' : World} {i p q g t0 N : Nat} {who0 : Int} {r : RS.Rf} {x : Ov} {o : RS.Ou} {M : Nat}
theorem nb_of_fm {T B : Nat} (f : RS.Fm T B r) (hn : r.n ≤ 7) (hT : T ≤ 20) (hl : r.last ≤ B) (hB : B ≤ 80000) (hw : -1 ≤ r.who ∧ r.who ≤ 6) : Nb (B + 2) r := by
  have hle : r.base + r.es.length ≤ B := hl
  refine ⟨by omega, hn, f.id, by rw [f.tT]; exact f.T1, by rw [f.tT]; exact hT, by have := f.term; omega, by have := f.base; omega, by have := f.bt; omega, by omega, fun e he => ⟨by have := (f.es e he).1; omega, (f.es e he).2⟩, by have := f.commit; omega, f.role, ⟨f.leader.1, by have := f.leader.2; omega⟩, ?_, ?_, ?_, hw, by have := f.round; omega, fun q => by have := f.next q; omega, fun q => by have := f.mt q; omega⟩
  · have := f.left; omega
  · have := f.quiet; omega
  · have := f.beat; omega
theorem alone_who : ∀ k, k ≤ 10 → -1 ≤ (RS.alone k).who ∧ (RS.alone k).who ≤ 6 := by decide
theorem alone_nb (k : Nat) (hk : k ≤ 10) : Nb (3 + k + 2) (RS.alone k) := by
  have h := RS.alone_one k
  exact nb_of_fm h.fm (by rw [h.n]; decide) (by decide) h.last (by omega) (alone_who k hk)
theorem alone_beat (k : Nat) : 0 ≤ (RS.alone k).beat := (RS.alone_one k).fm.beat.1
theorem Mv.low {L : Nat → Prop} {W W' : World} {n : Nat} (m : Mv L own W own' W') (h9 : ∀ b, b < n → own b = 9) (hn : n ≤ W.heap.size) (hL : ¬ L 9) : Below n W W' ∧ ∀ b, b < n → own' b = 9 :=
  ⟨⟨m.t.os, m.t.tape, m.t.output, m.t.size, fun b hb => m.same (by omega) (by rw [h9 b hb]; exact hL)⟩, fun b hb => (m.lab b (by omega)).trans (h9 b hb)⟩
set_option maxRecDepth 100000 in
set_option maxHeartbeats 2000000 in
theorem known_w (w : World) : Calls Try.prog 50 #[] w fun e w' => e = .returned (.bool true) ∧ Below w.heap.size w w' := by
  have Hnew := Lib.hid (new_w (fun _ => False) 0 0 (.slice none 0 0) [] w (by decide) (by decide) (EsR.nil w _) (by decide) (fun e he => by cases he))
  go_enter Try.func50, Try.ntmps50
  go_wp2_with (first
    | (go_at_call 22; refine (Hnew.out).mono ?_; rintro e w1 ⟨rfl, ⟨v1, ht1⟩, hB1⟩; have HB1 := Lib.hid hB1; have Hn := Lib.hid (new_ok_w 0 (by decide) 1 0 3 0 (-1) _ w.heap.size 0 0 v1 [] 1 w1 ht1 (by decide) (by decide) (by decide) (by decide) (by decide) (by decide) (by decide) (by decide) (fun e he => by cases he) (by decide) (by decide)); clear ht1 hB1)
    | (go_at_call 55; refine (Hn.out).mono ?_; rintro e w2 ⟨P, g, rfl, h2, hB2⟩; have H2 := Lib.hid h2; have HB2 := Lib.hid hB2; clear h2 hB2))
  have HB2' := Lib.hid (HB1.out.trans (HB2.out.mono HB1.out.size))
  have Hs1 := Lib.hid HB1.out.size
  clear HB1 HB2 Hn Hnew
  go_loopw [3] (fun c wr => ∃ (k : Nat) (own : Own) (g : Nat), k ≤ 10 ∧ c = .int .i64 (k : Int) ∧ Hid (NdAt own wr 0 P g (RS.alone k)) ∧ Hid (∀ b, b < w.heap.size → own b = 9) ∧ Hid (Below w.heap.size w wr)) (fun c _ => 10 - (intOf c).toNat)
  case atStart => exact ⟨0, _, g, by decide, rfl, H2, Lib.hid (fun b hb => ext_lt (Nat.lt_of_lt_of_le hb Hs1.out)), HB2'⟩
  clear H2 HB2' Hs1
  case round =>
    obtain ⟨k, own, g, hk, rfl, HN, HL, HB⟩ := hrel
    by_cases hlt : k < 10
    · have Htick := Lib.hid (tick_w own 0 P g (RS.alone k) wr HN.out (3 + k + 2) (alone_nb k (by omega)) (by omega) (alone_beat k) 0 (by decide))
      go_wp2_with (go_at_call 58; refine (Htick.out).mono ?_; rintro e w3 ⟨x, own3, g3, rfl, h3, _, m3⟩; have H3 := Lib.hid h3; have HM3 := Lib.hid (m3.low HL.out HB.out.size (by decide)); clear h3 m3)
      go_roundw
      case rel => exact ⟨k + 1, own3, g3, by omega, by go_num, H3, Lib.hid HM3.out.2, Lib.hid (HB.out.trans HM3.out.1)⟩
      case measure => simp [intOf]; omega
    · obtain rfl : k = 10 := by omega
      obtain ⟨k1, k2, k3, k4, k5, k6, k7, k8⟩ := RS.alone_known
      have hA := HN.out.mv (L := fun _ => False) (Mv.alloc own wr (.cells #[.int .u8 97] 5 (1, 2)) 9) id
      have hrd : RdB (wr.alloc (.cells #[.int .u8 97] 5 (1, 2))) (.slice (some ⟨wr.heap.size, 0, none⟩) 1 1) [97] :=
        RdB_of_block (heap_alloc_new wr _) rfl (Nat.le_refl _) (by decide) (fun j hj => by
          have hj' : j < 1 := hj
          obtain rfl : j = 0 := by omega
          rfl)
      have hlow := (Mv.alloc own wr (.cells #[.int .u8 97] 5 (1, 2)) 9).low HL.out HB.out.size id
      have hpr := prop_yes_w _ 0 P g (RS.alone 10) _ hA (3 + 10 + 2) (alone_nb 10 (by decide)) (by decide) k1 [97] _ _ _ hrd (by decide)
      have hP := hA.lt
      rw [k8] at hpr
      replace hpr := (show Calls Try.prog 56 _ _ (ToldP _ _ _ _ _ _ _ 2 0) from hpr)
      have Hpr := Lib.hid hpr
      have HLow := Lib.hid hlow
      have Hk := Lib.hid (And.intro k3 (And.intro k4 (And.intro k5 k7)))
      have hw0 : w.heap.size ≤ wr.heap.size := HB.out.size
      clear k1 k2 k3 k4 k5 k6 k7 k8 hA hrd hlow hpr hP
      generalize (RS.alone 10).propose [97] = res at *
      generalize ext own wr.heap.size 9 = ownA at *
      obtain ⟨r', o'⟩ := res
      have kc := fun (w : World) (C : Array Value) (n c : Nat) => Lib.run_convert_bytes_const (P := Try.prog) w 29 5 C n c Try.underlying29 Try.underlying5
      go_upto_region 9 with (first
        | (refine wpList_store_rowTo rfl 100 (.tmp 5) (.tmp 27) rfl rfl _ (Ov.cells x) rfl rfl 100 _ HZ.out (show _ = some 16 by kernel_rfl) rfl (ov_one x) ?_)
        | (go_at_call 56; refine (Hpr.out).mono ?_; rintro e w3 ⟨x, own3, g3, rfl, h3, ho3, m3⟩; have H3 := Lib.hid h3; have Han := Lib.hid ho3.an; have HM3 := Lib.hid (m3.low HLow.out.2 (HB.out.trans HLow.out.1).size (by decide)); clear h3 ho3 m3; have HZ := Lib.hid (heap_alloc_new w3 (.cells #[.bool false, .bool false, .int .u8 0, .int .u64 0, .int .u64 0, .int .u64 0, .int .u64 0, .int .u64 0, .bool false, .slice none 0 0, .slice none 0 0, .bool false, .int .u64 0, .slice none 0 0, .slice none 0 0, .slice none 0 0] 100))))
      have hbx := Bx.new own3 w3 #[.bool false, .bool false, .int .u8 0, .int .u64 0, .int .u64 0, .int .u64 0, .int .u64 0, .int .u64 0, .bool false, .slice none 0 0, .slice none 0 0, .bool false, .int .u64 0, .slice none 0 0, .slice none 0 0, .slice none 0 0] 100
      have H4 := Lib.hid ((H3.out.mv (L := fun _ => False) (Mv.alloc own3 w3 (.cells #[.bool false, .bool false, .int .u8 0, .int .u64 0, .int .u64 0, .int .u64 0, .int .u64 0, .int .u64 0, .bool false, .slice none 0 0, .slice none 0 0, .bool false, .int .u64 0, .slice none 0 0, .slice none 0 0, .slice none 0 0] 100) 9) id).mv (L := fun l => l = 9) (Mv.row9 (ds := Ov.cells x) hbx) (by decide))
      have HX4 := Lib.hid (hbx.setRow (Ov.cells x))
      have HB4 := Lib.hid (show Below w.heap.size w ((w3.alloc (.cells #[.bool false, .bool false, .int .u8 0, .int .u64 0, .int .u64 0, .int .u64 0, .int .u64 0, .int .u64 0, .bool false, .slice none 0 0, .slice none 0 0, .bool false, .int .u64 0, .slice none 0 0, .slice none 0 0, .slice none 0 0] 100)).setRow w3.heap.size (Ov.cells x)) from by
        have h1 := (HB.out.trans HLow.out.1).trans HM3.out.1
        exact Below_setRow (h1.alloc h1.size _) h1.size _)
      clear hbx HZ
      generalize (w3.alloc (.cells #[.bool false, .bool false, .int .u8 0, .int .u64 0, .int .u64 0, .int .u64 0, .int .u64 0, .int .u64 0, .bool false, .slice none 0 0, .slice none 0 0, .bool false, .int .u64 0, .slice none 0 0, .slice none 0 0, .slice none 0 0] 100)).setRow w3.heap.size (Ov.cells x) = w4 at *
      generalize ext own3 w3.heap.size 9 = own4 at *
      obtain ⟨k3, k4, k5, k7⟩ := Hk.out
      have hrole := role_w own4 0 P g3 r' w4 H4.out
      have hterm := term_w own4 0 P g3 r' w4 H4.out
      have hcom := commit_w own4 0 P g3 r' w4 H4.out
      rw [k3] at hrole
      rw [k4] at hterm
      rw [k5] at hcom
      have Hrole := Lib.hid hrole
      have Hterm := Lib.hid hterm
      have Hcom := Lib.hid hcom
      have hc13 : w4.cell? ⟨w3.heap.size, 13, none⟩ = some (.slice x.ap 1 x.ac) := by
        rw [HX4.out.c]
        show some (Value.slice x.ap x.an x.ac) = _
        rw [Han.out, k7]
      clear k3 k4 k5 k7 hrole hterm hcom
      go_wp2_with (first
        | (go_at_call 61; refine (Hrole.out).mono ?_; rintro e w5 ⟨rfl, rfl⟩)
        | (go_at_call 62; refine (Hterm.out).mono ?_; rintro e w5 ⟨rfl, rfl⟩)
        | (go_at_call 65; refine (Hcom.out).mono ?_; rintro e w5 ⟨rfl, rfl⟩))
      go_ret
      exact ⟨rfl, HB4.out⟩
end
end Go.Proofs.Yteellfgiejnigaa
