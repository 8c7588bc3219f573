/- The law NotesSame of two notes. -/
import Derived.Test.YteellfgiejnigaaN11
namespace Go.Proofs.Yteellfgiejnigaa
open Go.ChangeShapes Go.WideShapes Go.ChangeAt Go.RowKit
set_option linter.unusedVariables false

/-- A note's cells. -/
def ntc (x : Nt) (lv dv : Value) : Array Value := #[.int .u8 (x.kind : Int), .int .u64 (x.term : Int), .int .u64 (x.round : Int), .int .u64 (x.index : Int), .int .u64 (x.at_ : Int), .int .u64 (x.commit : Int), .bool x.yes, lv, dv]
theorem ntv_ntc (x : Nt) (lv dv : Value) : ntv x lv dv = .agg (ntc x lv dv) := rfl
def bytesN (x : Nt) : List UInt8 := if mayN x = true then formN x else []
def faultN (x : Nt) : Int := if mayN x = true then 0 else 2
theorem noteBytes2_w (x : Nt) (lv dv : Value) (S : Foot) (w : World) (h : NtA w S lv dv x) (hn : x.list.length ≤ 1000000) :
    Calls Try.prog 18 #[ntv x lv dv] w fun r w' => (∃ p n c, r = .returned (.tuple #[.slice p n c, .int .i64 (faultN x)]) ∧ RdB w' (.slice p n c) (bytesN x)) ∧ Below w.heap.size w w' := by
  refine (noteBytes_w x lv dv S w h hn).mono ?_
  rintro r w' ⟨hb, hB⟩
  refine ⟨?_, hB⟩
  unfold faultN bytesN
  rcases hb with ⟨hm, p, n, c, rfl, hl, ho⟩ | ⟨hm, rfl⟩
  · rw [if_pos hm, if_pos hm]; exact ⟨p, n, c, rfl, ho.rd⟩
  · rw [if_neg (by rw [hm]; decide), if_neg (by rw [hm]; decide)]; exact ⟨none, 0, 0, rfl, (OB.nil w' 0 5).rd⟩
/-- What is not large: at most 40 entries, 60000 bytes of theirs, 20000 of a snapshot unless it is more than may be. -/
theorem not_large {x : Nt} (h : largeN x = false) : x.list.length ≤ 1000000 ∧ x.list.length ≤ 40 ∧ dsum x.list ≤ 60000 ∧ (x.data.length ≤ 20000 ∨ 524288 < x.data.length) := by
  unfold largeN at h
  have := of_decide_eq_false h
  omega
theorem nsame_w (x z : Nt) (lv1 dv1 lv2 dv2 : Value) (S1 S2 : Foot) (w : World) (h1 : NtA w S1 lv1 dv1 x) (h2 : NtA w S2 lv2 dv2 z)
    (d1 : ∀ e ∈ x.list, e.2.length ≤ 140737488351232) (d2 : ∀ e ∈ z.list, e.2.length ≤ 140737488351232) :
    Calls Try.prog 4 #[ntv x lv1 dv1, ntv z lv2 dv2] w fun r w' => r = .returned (.bool true) ∧ Below w.heap.size w w' := by
  have H : NsCalls w (ntc x lv1 dv1) (ntc z lv2 dv2) (largeN x) (largeN z) (sameN x z) (faultN x) (faultN z) (bytesN x) (bytesN z) := by
    refine ⟨fun W k => large_w x _ _ S1 W (h1.keeps k) d1, fun W k => large_w z _ _ S2 W (h2.keeps k) d2, fun l1 l2 W k => noteBytes2_w x _ _ S1 W (h1.keeps k) (not_large l1).1, fun l1 l2 W k => noteBytes2_w z _ _ S2 W (h2.keeps k) (not_large l2).1,
      fun l1 l2 W k => noteSame_w x z _ _ _ _ S1 S2 W (h1.keeps k) (h2.keeps k) (not_large l1).1, fun l1 l2 W k => rnoteSame_w x z _ _ _ _ S1 S2 W (h1.keeps k) (h2.keeps k) (not_large l1).1, fun l1 l2 W k => ?_, rfl, rfl⟩
    rw [sameN_comm]
    exact noteSame_w z x _ _ _ _ S2 S1 W (h2.keeps k) (h1.keeps k) (not_large l2).1
  rw [ntv_ntc, ntv_ntc]
  cases hx : largeN x with
  | true => rw [hx] at H; exact nsameA_w w _ _ _ _ _ _ _ _ H
  | false =>
    rw [hx] at H
    cases hz : largeN z with
    | true => rw [hz] at H; exact nsameB_w w _ _ true _ _ _ _ _ H
    | false =>
      rw [hz] at H
      cases mx : mayN x with
      | false =>
        rw [show faultN x = 2 by unfold faultN; rw [mx]; rfl] at H
        exact nsameC_w w _ _ _ _ _ _ H
      | true =>
        rw [show faultN x = 0 by unfold faultN; rw [mx]; rfl] at H
        cases mz : mayN z with
        | false =>
          rw [show faultN z = 2 by unfold faultN; rw [mz]; rfl] at H
          exact nsameD_w w _ _ _ _ _ H
        | true =>
          rw [show faultN z = 0 by unfold faultN; rw [mz]; rfl] at H
          refine nsameE_w w _ _ _ _ _ ?_ H
          unfold bytesN
          rw [if_pos mx, if_pos mz]
          cases hs : sameN x z with
          | true => rw [decide_eq_true_eq, (sameN_iff x z).1 hs]
          | false =>
            rw [decide_eq_false_iff_not]
            intro e
            rw [(sameN_iff x z).2 (formN_inj mx mz e)] at hs
            cases hs
end Go.Proofs.Yteellfgiejnigaa
