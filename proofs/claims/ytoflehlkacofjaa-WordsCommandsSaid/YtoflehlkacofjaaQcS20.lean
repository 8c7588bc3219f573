/- The document's form of a contract's data: the walk. -/
import Derived.Test.YtoflehlkacofjaaQcS10
namespace Go.Proofs.Ytoflehlkacofjaa
open Go.ChangeShapes Go.WideShapes Go.ChangeAt Go.RowKit
set_option linter.unusedVariables false
/-- The data lie at the first new block, and the bytes so far in a row beyond it. -/
structure FInv (w W : World) (s : Sp) (p : Option Addr) (k c : Nat) (l : List UInt8) : Prop where
  at_ : SpAt W w.heap.size s
  bel : Below w.heap.size w W
  len : k = l.length
  own : OB W (w.heap.size + 1) 5 (.slice p k c) l
  size : w.heap.size + 1 ≤ W.heap.size
theorem FInv.next {w W W1 : World} {s : Sp} {p : Option Addr} {k c : Nat} {l : List UInt8} (h : FInv w W s p k c l) (hB : Below W.heap.size W W1) : FInv w W1 s p k c l :=
  ⟨h.at_.below hB, h.bel.trans (hB.mono h.bel.size), h.len, h.own.below hB, Nat.le_trans h.size hB.size⟩
theorem FInv.put {w W W1 : World} {s : Sp} {p p1 : Option Addr} {k c k1 c1 : Nat} {l l1 : List UInt8} (h : FInv w W s p k c l) (hn : k1 = l1.length) (ho : OB W1 (w.heap.size + 1) 5 (.slice p1 k1 c1) l1) (hg : W.grownBy W1 (Value.slice p k c).ownBlock) : FInv w W1 s p1 k1 c1 l1 := by
  have hl : ∀ g, (Value.slice p k c).ownBlock = some g → w.heap.size + 1 ≤ g := fun g e => by
    have h2 := h.own; have h3 := h.len; subst h3; exact (h2.lt g e).1
  refine ⟨?_, h.bel.grown hg h.bel.size (fun g e => Nat.le_of_succ_le (hl g e)), hn, ho, Nat.le_trans h.size hg.size⟩
  have hb := h.at_
  unfold SpAt at *
  rw [hg.block w.heap.size (by have := h.size; omega) (fun e => by have := hl _ e.symm; omega)]
  exact hb
theorem sum_le {x y a : Nat} (h1 : x ≤ a) (h2 : y ≤ 10) (h : a ≤ 1000) : x + y ≤ 140737488355328 := by omega
namespace Sp
theorem num_lt (s : Sp) (h : s.ok) (i : Nat) : s.num i < 2 ^ 64 := by
  unfold num
  repeat' split
  all_goals first | exact Form.u64_lt _ | exact Form.fold_lt (h.sh _).1 (h.sh _).2
theorem formN_le (s : Sp) (h : s.ok) : ∀ k, (s.formN k).length ≤ 10 * k := by
  intro k
  induction k with
  | zero => exact Nat.le_refl _
  | succ k ih => rw [formN_succ, List.length_append]; have := Form.nat_len10 (s.num_lt h k); omega
theorem num_sh (s : Sp) (k : Nat) (hk : k < 16) : Form.fold (s.sh k) = s.num (6 + k) := by
  unfold num; rw [if_neg (by omega), if_pos (by omega), Nat.add_sub_cancel_left]
end Sp
set_option maxRecDepth 100000 in
set_option maxHeartbeats 3200000 in
theorem refform_w (s : Sp) (w : World) (h : s.ok) : Calls Try.prog 63 #[.agg s.cells] w fun r w' => ∃ p k c, r = .returned (.slice p k c) ∧ k = s.form.length ∧ OB w' w.heap.size 5 (.slice p k c) s.form ∧ Below w.heap.size w w' := by
  have HI := Lib.hid (show FInv w (w.alloc (.cells s.cells 27)) s none 0 0 (s.formN 0) from ⟨SpAt.new w s, (Below.refl w.heap.size w).alloc (Nat.le_refl _) _, rfl, OB.nil _ _ _, by simp⟩)
  have hu : ∀ x : Int, 0 ≤ x → x < 18446744073709551616 → x = ((Form.u64 x : Nat) : Int) := fun x h0 h1 => (Form.u64_of h0 h1).symm
  have Hu := Lib.hid (fun i => s.num_lt h i)
  have HL := Lib.hid (fun i => s.formN_le h i)
  have H10 := Lib.hid (fun i => Form.nat_len10 (s.num_lt h i))
  have HF := Lib.hid (fun i => s.formN_succ i)
  have HE := Lib.hid s.formN_form
  have Hsh := Lib.hid h.sh
  have e0 : s.num 0 = Form.u64 s.number := rfl
  have e1 : s.num 1 = Form.u64 s.route := rfl
  have e2 : s.num 2 = Form.u64 s.tick := rfl
  have e3 : s.num 3 = Form.u64 s.lot := rfl
  have e4 : s.num 4 = Form.u64 s.band := rfl
  have e5 : s.num 5 = Form.u64 s.limit := rfl
  have e22 : s.num 22 = Form.u64 s.credit := rfl
  have e23 : s.num 23 = Form.u64 s.last := rfl
  have e24 : s.num 24 = Form.u64 s.first := rfl
  have q0 := hu s.number (by have := h.number; omega) (by have := h.number; omega)
  have q1 := hu s.route (by have := h.route; omega) (by have := h.route; omega)
  have q23 := hu s.last (by have := h.last; omega) (by have := h.last; omega)
  rw [← e0] at q0
  rw [← e1] at q1
  rw [← e23] at q23
  have C0 := Lib.hid (show s.cells[0]? = some (.int .u32 ((s.num 0 : Nat) : Int)) by rw [← q0]; rfl)
  have C1 := Lib.hid (show s.cells[1]? = some (.int .u8 ((s.num 1 : Nat) : Int)) by rw [← q1]; rfl)
  have C23 := Lib.hid (show s.cells[23]? = some (.int .u32 ((s.num 23 : Nat) : Int)) by rw [← q23]; rfl)
  have hw0 : IntKind.u64.wrap ((s.num 0 : Nat) : Int) = ((s.num 0 : Nat) : Int) := IntWalk.u64_in _ (by have := Hu.out 0; omega)
  have hw1 : IntKind.u64.wrap ((s.num 1 : Nat) : Int) = ((s.num 1 : Nat) : Int) := IntWalk.u64_in _ (by have := Hu.out 1; omega)
  have hw23 : IntKind.u64.wrap ((s.num 23 : Nat) : Int) = ((s.num 23 : Nat) : Int) := IntWalk.u64_in _ (by have := Hu.out 23; omega)
  have hw2 : IntKind.u64.wrap s.tick = ((s.num 2 : Nat) : Int) := Form.u64_wrap _
  have hw3 : IntKind.u64.wrap s.lot = ((s.num 3 : Nat) : Int) := Form.u64_wrap _
  have hw4 : IntKind.u64.wrap s.band = ((s.num 4 : Nat) : Int) := Form.u64_wrap _
  have hw5 : IntKind.u64.wrap s.limit = ((s.num 5 : Nat) : Int) := Form.u64_wrap _
  have hw22 : IntKind.u64.wrap s.credit = ((s.num 22 : Nat) : Int) := Form.u64_wrap _
  have hw24 : IntKind.u64.wrap s.first = ((s.num 24 : Nat) : Int) := Form.u64_wrap _
  clear e0 e1 e2 e3 e4 e5 e22 e23 e24 q0 q1 q23 hu h
  have d0 := (HI.out.at_.at 0).trans C0.out
  go_enter Try.func63, Try.ntmps63
  go_wp2_with (first
    | (go_at_call 51
       refine (refnat_w _ _ (Hu.out _)).mono ?_
       rintro r w1 ⟨p1, k1, c1, rfl, ho, hk, hB⟩
       have HI := Lib.hid (HI.out.next hB)
       have Hm := Lib.hid ho.rd
       clear ho hk hB)
    | (refine wpList_append_bytes rfl _ _ 39 rfl hel rfl HI.out.own rfl Hm.out (sum_le (HL.out _) (H10.out _) (by decide)) HI.out.size ?_
       intro p2 k2 c2 w2 hk ho hg
       rw [← HF.out] at hk ho
       have HI := Lib.hid (HI.out.put hk ho hg)
       simp only [Nat.reduceAdd] at HI
       have d1 := (HI.out.at_.at 1).trans C1.out
       have d2 := (HI.out.at_.at 2).trans (show s.cells[2]? = some (.int .i64 s.tick) from rfl)
       have d3 := (HI.out.at_.at 3).trans (show s.cells[3]? = some (.int .i64 s.lot) from rfl)
       have d4 := (HI.out.at_.at 4).trans (show s.cells[4]? = some (.int .i64 s.band) from rfl)
       have d5 := (HI.out.at_.at 5).trans (show s.cells[5]? = some (.int .i64 s.limit) from rfl)
       clear hk ho hg))
  go_loopw [3, 4] (fun b i wr => ∃ (k : Nat) (p : Option Addr) (m c : Nat), k ≤ 16 ∧ i = .int .i64 (k : Int) ∧ b = .slice p m c ∧ FInv w wr s p m c (s.formN (6 + k))) (fun _ i _ => 16 - (intOf i).toNat)
  case atStart => exact ⟨0, _, _, _, by decide, rfl, rfl, HI.out⟩
  case round =>
    clear HI
    obtain ⟨k, p, m, c, hk, rfl, rfl, hI⟩ := hrel
    have HI := Lib.hid hI
    clear hI
    by_cases hlt : k < 16
    · have hck := HI.out.at_.sh k hlt
      obtain ⟨hx1, hx2⟩ := Hsh.out k
      have Hnum := Lib.hid (s.num_sh k hlt)
      generalize s.sh k = x at *
      go_wp2_with (first
        | (go_at_call 52
           refine (refint_w _ _ hx1 hx2).mono ?_
           rintro r w1 ⟨p1, k1, c1, rfl, ho, hk, hB⟩
           rw [Hnum.out] at ho
           have HI := Lib.hid (HI.out.next hB)
           have Hm := Lib.hid ho.rd
           clear ho hk hB)
        | (refine wpList_append_bytes rfl _ _ 39 rfl hel rfl HI.out.own rfl Hm.out (sum_le (HL.out _) (H10.out _) (by omega)) HI.out.size ?_
           intro p2 k2 c2 w2 hk2 ho hg
           rw [← HF.out] at hk2 ho
           have HI := Lib.hid (HI.out.put hk2 ho hg)
           clear hk2 ho hg))
      go_roundw
      case rel => exact ⟨k + 1, _, _, _, by omega, by go_num, rfl, HI.out⟩
      case measure => simp [intOf]; omega
    · have hk16 : k = 16 := by omega
      subst hk16
      have d22 := (HI.out.at_.at 22).trans (show s.cells[22]? = some (.int .i64 s.credit) from rfl)
      go_wp2_with (first
        | (go_at_call 51
           refine (refnat_w _ _ (Hu.out _)).mono ?_
           rintro r w1 ⟨p1, k1, c1, rfl, ho, hk, hB⟩
           have HI := Lib.hid (HI.out.next hB)
           have Hm := Lib.hid ho.rd
           clear ho hk hB)
        | (refine wpList_append_bytes rfl _ _ 39 rfl hel rfl HI.out.own rfl Hm.out (sum_le (HL.out _) (H10.out _) (by decide)) HI.out.size ?_
           intro p2 k2 c2 w2 hk ho hg
           rw [← HF.out] at hk ho
           have HI := Lib.hid (HI.out.put hk ho hg)
           simp only [Nat.reduceAdd] at HI
           have d23 := (HI.out.at_.at 23).trans C23.out
           have d24 := (HI.out.at_.at 24).trans (show s.cells[24]? = some (.int .i64 s.first) from rfl)
           clear hk ho hg))
      go_ret
      have hfin := HI.out
      rw [HE.out] at hfin
      exact ⟨_, _, _, rfl, hfin.len, ownsRow_mono_base hfin.own (Nat.le_succ _), hfin.bel⟩
end Go.Proofs.Ytoflehlkacofjaa
