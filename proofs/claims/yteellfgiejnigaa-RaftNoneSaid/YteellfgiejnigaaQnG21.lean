/- No node: big, and answers alike, the walks. -/
import Derived.Test.YteellfgiejnigaaQnG20
import Derived.Test.YteellfgiejnigaaQnR2
import Derived.Test.YteellfgiejnigaaQnU1
namespace Go.Proofs.Yteellfgiejnigaa
open Go.ChangeShapes Go.WideShapes Go.ChangeAt Go.RowKit
set_option linter.unusedVariables false
section
variable {w w' : World}
set_option maxRecDepth 100000 in
set_option maxHeartbeats 2000000 in
theorem big_w (x : Nt) (lv dv : Value) (S : Foot) (w : World) (h : NtA w S lv dv x) (hl : ∀ e ∈ x.list, e.2.length ≤ 140737488351232) (hd : x.data.length ≤ 140737488351232) :
    Calls Try.prog 54 #[ntv x lv dv] w fun e w' => (∃ b, e = .returned (.bool b)) ∧ Below w.heap.size w w' := by
  obtain ⟨k1, t1, r1, i1, a1, c1, y1, L1, D1⟩ := x
  obtain ⟨⟨pl1, cl1, rfl⟩, ⟨pd1, cd1, rfl⟩⟩ := h.forms
  unfold ntv
  dsimp only at hl hd ⊢
  have Ha := Lib.hid h.l
  have HB0 := Lib.hid ((Below.refl w.heap.size w).alloc (Nat.le_refl _) (.cells #[.int .u8 (k1 : Int), .int .u64 (t1 : Int), .int .u64 (r1 : Int), .int .u64 (i1 : Int), .int .u64 (a1 : Int), .int .u64 (c1 : Int), .bool y1, .slice pl1 L1.length cl1, .slice pd1 D1.length cd1] 31))
  have HC := Lib.hid (heap_alloc_new w (.cells #[.int .u8 (k1 : Int), .int .u64 (t1 : Int), .int .u64 (r1 : Int), .int .u64 (i1 : Int), .int .u64 (a1 : Int), .int .u64 (c1 : Int), .bool y1, .slice pl1 L1.length cl1, .slice pd1 D1.length cd1] 31))
  have Hl := Lib.hid hl
  have Hd := Lib.hid hd
  clear h hl hd
  dsimp only at Ha Hl Hd
  go_enter Try.func54, Try.ntmps54
  go_wp2
  go_loopw [3, 4] (fun v i wr => ∃ (k m : Nat), k ≤ L1.length ∧ k ≤ 20 ∧ i = .int .i64 (k : Int) ∧ v = .int .i64 (m : Int) ∧ m ≤ (k + 1) * 140737488351232 ∧ Hid (Below w.heap.size w wr ∧ wr.heap[w.heap.size]? = some (.cells #[.int .u8 (k1 : Int), .int .u64 (t1 : Int), .int .u64 (r1 : Int), .int .u64 (i1 : Int), .int .u64 (a1 : Int), .int .u64 (c1 : Int), .bool y1, .slice pl1 L1.length cl1, .slice pd1 D1.length cd1] 31))) (fun _ i _ => L1.length - (intOf i).toNat)
  case atStart => exact ⟨0, D1.length, Nat.zero_le _, by omega, rfl, rfl, by have := Hd.out; omega, Lib.hid ⟨HB0.out, HC.out⟩⟩
  case round =>
    obtain ⟨k, m, hk, hk2, rfl, rfl, hm, HB⟩ := hrel
    have q7 : wr.cell? ⟨w.heap.size, 7, none⟩ = some (.slice pl1 L1.length cl1) := by rw [cell_of_row _ _ _ _ _ _ HB.out.2]; rfl
    have q8 : wr.cell? ⟨w.heap.size, 8, none⟩ = some (.slice pd1 D1.length cd1) := by rw [cell_of_row _ _ _ _ _ _ HB.out.2]; rfl

    by_cases hlt : k < L1.length
    · by_cases h20 : k < 20
      · obtain ⟨b, off, c, d, hv, e1, e2, e3⟩ := Ha.out.both k hlt
        cases hv
        have hln : (L1[k]).2.length ≤ 140737488351232 := Hl.out _ (List.getElem_mem _)
        generalize L1[k].2 = le at *
        obtain ⟨dp, dc, rfl⟩ : ∃ p c, d = .slice p le.length c := by obtain ⟨p, c, h1, _⟩ := e3; exact ⟨p, c, h1⟩
        have he2 := (show Keeps w wr from HB.out.1.block).cell e2
        clear e1 e2 e3
        have hnb : ¬ ((L1.length : Int) ≤ (k : Int)) := by omega
        go_wp2
        go_roundw
        case rel => exact ⟨k + 1, m + le.length, by omega, by omega, by go_num, by go_num, by omega, HB⟩
        case measure => simp [intOf]; omega
      · obtain rfl : k = 20 := by omega
        go_wp2
        all_goals (go_ret; exact ⟨⟨_, rfl⟩, HB.out.1⟩)
    · obtain rfl : k = L1.length := by omega
      go_wp2
      all_goals (go_ret; exact ⟨⟨_, rfl⟩, HB.out.1⟩)
end
end Go.Proofs.Yteellfgiejnigaa
