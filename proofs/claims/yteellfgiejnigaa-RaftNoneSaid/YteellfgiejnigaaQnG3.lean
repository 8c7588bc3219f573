/- A node's small functions: the walks. -/
import Derived.Test.YteellfgiejnigaaQnG2
import Derived.Test.YteellfgiejnigaaQnR2
import Derived.StillTailTactics
namespace Go.Proofs.Yteellfgiejnigaa
open Go.ChangeShapes Go.WideShapes Go.ChangeAt Go.RowKit
set_option linter.unusedVariables false
/-- Bounds of a node. -/
structure Nb (M : Nat) (r : RS.Rf) : Prop where
  hM : M ≤ 600000
  n7 : r.n ≤ 7
  id : r.id < r.n
  T1 : 1 ≤ r.T
  T2 : r.T ≤ 20
  term : r.term ≤ M
  base : r.base ≤ M
  bt : r.bt ≤ M
  len : r.es.length ≤ M
  es : ∀ e ∈ r.es, e.1 ≤ M ∧ e.2.length ≤ 3000
  commit : r.commit ≤ M
  role : r.role ≤ 3
  leader : -1 ≤ r.leader ∧ r.leader ≤ 6
  left : -1 ≤ r.left ∧ r.left ≤ 50
  quiet : 0 ≤ r.quiet ∧ r.quiet ≤ 50
  beat : -1 ≤ r.beat ∧ r.beat ≤ 50
  who : -1 ≤ r.who ∧ r.who ≤ 6
  round : r.round ≤ M
  next : ∀ q, r.next q ≤ M
  mt : ∀ q, r.mt q ≤ M
section
variable {own : Own} {w : World} {i p q g t0 : Nat} {who0 : Int} {r : RS.Rf} {x : Ov} {o : RS.Ou} {M : Nat}
theorem none_w (own : Own) (i p g : Nat) (r : RS.Rf) (w : World) (h : NdAt own w i p g r) : Calls Try.prog 106 #[.pointer (some ⟨p, 0, none⟩)] w fun e w' => e = .returned (.bool false) ∧ w = w' := by
  have hc : w.cell? ⟨p, 5, none⟩ = some (.pointer (some ⟨g, 0, none⟩)) := h.c 5
  go_enter Try.func106, Try.ntmps106
  go_wp2
  go_ret
  exact ⟨rfl, rfl⟩
theorem role_w (own : Own) (i p g : Nat) (r : RS.Rf) (w : World) (h : NdAt own w i p g r) : Calls Try.prog 61 #[.pointer (some ⟨p, 0, none⟩)] w fun e w' => e = .returned (.int .u8 (r.role : Int)) ∧ w = w' := by
  have hc : w.cell? ⟨p, 7, none⟩ = some (.int .u8 (r.role : Int)) := h.c 7
  go_enter Try.func61, Try.ntmps61
  go_wp2_with (go_at_call 106; refine (none_w own i p g r w h).mono ?_; rintro e w1 ⟨rfl, rfl⟩)
  go_ret
  exact ⟨rfl, rfl⟩
theorem term_w (own : Own) (i p g : Nat) (r : RS.Rf) (w : World) (h : NdAt own w i p g r) : Calls Try.prog 62 #[.pointer (some ⟨p, 0, none⟩)] w fun e w' => e = .returned (.int .u64 (r.term : Int)) ∧ w = w' := by
  have hc : w.cell? ⟨p, 3, none⟩ = some (.int .u64 (r.term : Int)) := h.c 3
  go_enter Try.func62, Try.ntmps62
  go_wp2_with (go_at_call 106; refine (none_w own i p g r w h).mono ?_; rintro e w1 ⟨rfl, rfl⟩)
  go_ret
  exact ⟨rfl, rfl⟩
theorem commit_w (own : Own) (i p g : Nat) (r : RS.Rf) (w : World) (h : NdAt own w i p g r) : Calls Try.prog 65 #[.pointer (some ⟨p, 0, none⟩)] w fun e w' => e = .returned (.int .u64 (r.commit : Int)) ∧ w = w' := by
  have hc : w.cell? ⟨p, 6, none⟩ = some (.int .u64 (r.commit : Int)) := h.c 6
  go_enter Try.func65, Try.ntmps65
  go_wp2_with (go_at_call 106; refine (none_w own i p g r w h).mono ?_; rintro e w1 ⟨rfl, rfl⟩)
  go_ret
  exact ⟨rfl, rfl⟩
theorem NdAt.drew (h : NdAt own w i p g r) : NdAt own w.drew i p g r := h.mv (L := fun _ => False) ⟨⟨rfl, rfl, rfl, Nat.le_refl _, fun _ _ _ => rfl⟩, fun _ _ => rfl⟩ id
theorem Mv.drew (L : Nat → Prop) (own : Own) (w : World) : Mv L own w own w.drew := ⟨⟨rfl, rfl, rfl, Nat.le_refl _, fun _ _ _ => rfl⟩, fun _ _ => rfl⟩
set_option maxRecDepth 100000 in
theorem draw_w (own : Own) (i p g : Nat) (r : RS.Rf) (w : World) (h : NdAt own w i p g r) (hT : r.T ≤ 20) (d : Nat) (hd : d < 2 ^ 64) :
    Calls Try.prog 105 #[.pointer (some ⟨p, 0, none⟩), .int .u64 (d : Int)] w fun e w' => (∃ v, e = .returned v) ∧ NdAt own w' i p g (r.draw d) ∧ Mv (fun l => l = i) own w own w' := by
  have hc : w.cell? ⟨p, 2, none⟩ = some (.int .i64 (r.T : Int)) := h.c 2
  have hf := h.frozen 9
  obtain ⟨u, hu⟩ : ∃ u : Value, w.cell? ⟨p, 9, none⟩ = some u := ⟨_, h.c 9⟩
  have H := Lib.hid h
  obtain ⟨N, hN⟩ : ∃ N, N = r.T + 1 := ⟨_, rfl⟩
  have e1 : IntKind.i64.wrap ((r.T : Int) + 1) = (N : Int) := by rw [IntWalk.i64_in _ (by omega)]; omega
  have e2 : IntKind.u64.wrap (N : Int) = (N : Int) := IntWalk.u64_in _ (by omega)
  obtain ⟨m, hm⟩ : ∃ m, m = d % N := ⟨_, rfl⟩
  have hm2 : m < N := by rw [hm]; exact Nat.mod_lt _ (by omega)
  have e3 : (d : Int) % (N : Int) = (m : Int) := by rw [hm]; rfl
  have e6 : (d : Int).tmod (N : Int) = (m : Int) := by rw [← e3]; exact Int.tmod_eq_emod_of_nonneg (by omega)
  have e7 : ¬ N = 0 := by omega
  have e4 : IntKind.i64.wrap (m : Int) = (m : Int) := IntWalk.i64_in _ (by omega)
  have e5 : IntKind.i64.wrap ((r.T : Int) + (m : Int)) = (r.T : Int) + (m : Int) := IntWalk.i64_in _ (by omega)
  have Hm := Lib.hid hm
  have HN := Lib.hid hN
  clear hm h hN
  go_enter Try.func105, Try.ntmps105
  go_still_tail 19, (by kernel_rfl)
  change wpList _ _ _ _ _ w.drew
  have hf' : w.drew.frozen? ⟨p, 9, none⟩ = false := hf
  have hu' : w.drew.cell? ⟨p, 9, none⟩ = some u := hu
  have HD := Lib.hid H.out.drew
  have HM := Lib.hid (Mv.drew (fun l => l = i) own w)
  generalize w.drew = w2 at *
  go_wp2
  go_end0
  refine ⟨⟨_, rfl⟩, HD.out.set 9 _ (r.draw d) (by rw [Hm.out, HN.out]; rfl) rfl rfl rfl, HM.out.trans (Mv.set HD.out.op _)⟩
end
end Go.Proofs.Yteellfgiejnigaa
