/- Walk of Read. -/
import Derived.Test.YtpbdnndpdidagaaS8
namespace Go.Proofs.Ytpbdnndpdidagaa
open Go.ChangeShapes Go.WideShapes Go.ChangeAt Go.RowKit
set_option linter.unusedVariables false

theorem results_cell_tmp {fn : Func} {p q : Tmp} {ty : TypeId} (h : fn.results = #[.cell p ty, .tmp q]) (tmps : Array Value) (w : World) (g : Nat) (t : TypeId) (cs : Array Value) (fr : Nat × Nat) (d : TypeDesc) (x : Value)
    (hp : tmps.getD p undef = .pointer (some ⟨g, 0, none⟩)) (hq : tmps.getD q undef = x) (hg : w.heap[g]? = some (.cells cs t fr))
    (hd : (match d with | .struct _ | .array _ _ => true | _ => false) = true) (hu : Try.prog.underlying ty = some d) (hi : (Try.prog.info? ty).map (·.size) = some cs.size) :
    (results fn tmps).run Try.prog w = .ok (.tuple #[.agg cs, x]) w := by
  have hp' : tmps[p]?.getD undef = .pointer (some ⟨g, 0, none⟩) := by simpa using hp
  have hq' : tmps[q]?.getD undef = x := by simpa using hq
  have hl := run_loadVar_row (P := Try.prog) w g t ty cs fr d hg hu (by cases d <;> first | rfl | exact hd) hi
  simp [results, h, hp', hq', asAddr, hl]

namespace Sp
/-- The form is read whole. -/
def goodB (b : List UInt8) : Bool := (taken b 0 0).mayB && (decide ((Form.rst b 0 0 25).2 = 0) && decide (b.length ≤ (Form.rst b 0 0 25).1))
def back (b : List UInt8) : Sp := if goodB b then taken b 0 0 else zero
def backE (b : List UInt8) : Int := if goodB b then 0 else 5
theorem back_ok (b : List UInt8) : (back b).ok := by
  unfold back
  split
  · exact taken_ok b 0 0
  · have h0 : i64 0 := by unfold i64; decide
    exact ⟨by decide, by decide, h0, h0, h0, h0, fun _ => h0, h0, by decide, h0⟩
def tookE (b : List UInt8) : Int := if (taken b 0 0).mayB then (Form.rst b 0 0 25).2 else if (Form.rst b 0 0 25).2 = 0 then 5 else (Form.rst b 0 0 25).2
def took (b : List UInt8) : Sp := if (taken b 0 0).mayB then taken b 0 0 else zero
theorem took_cells (b : List UInt8) : (if (taken b 0 0).mayB then (taken b 0 0).cells else zero.cells) = (took b).cells := by unfold took; split <;> rfl
theorem took_ways (b : List UInt8) : (goodB b = true ∧ took b = taken b 0 0 ∧ Form.done b.length (Form.rst b 0 0 25).1 (tookE b) = 0) ∨
    (goodB b = false ∧ Form.done b.length (Form.rst b 0 0 25).1 (tookE b) ≠ 0) := by
  unfold goodB took tookE Form.done
  cases hm : (taken b 0 0).mayB with
  | true =>
    by_cases he : (Form.rst b 0 0 25).2 = 0
    · by_cases hl : b.length ≤ (Form.rst b 0 0 25).1
      · refine .inl ⟨by simp [he, hl], by simp, by simp [he, hl]⟩
      · refine .inr ⟨by simp [he]; omega, ?_⟩
        simp only [if_true, he]
        rw [if_pos ⟨trivial, by omega⟩]; decide
    · refine .inr ⟨by simp [he], ?_⟩
      simp only [if_true]
      rw [if_neg (fun h => he h.1)]; exact he
  | false =>
    refine .inr ⟨by simp, ?_⟩
    by_cases he : (Form.rst b 0 0 25).2 = 0
    · simp [he]
    · simp [he]
end Sp

theorem took_of {w w' : World} {g : Nat} {v : Value} {b : List UInt8} {r : Ending} (h : Took w g v b 0 0 r w') : r = .returned (.agg (Sp.took b).cells) ∧ Moved w w' g v (Form.rst b 0 0 25).1 (Sp.tookE b) := by
  obtain ⟨e2, h1, h2, h3⟩ := h
  rw [Sp.took_cells] at h1
  subst h2
  exact ⟨h1, h3⟩

set_option maxRecDepth 100000 in
theorem read_w (v : Value) (b : List UInt8) (w : World) (hb : RdB w v b) (hl : b.length ≤ 1000000) :
    Calls Try.prog 52 #[v] w fun r w' => r = .returned (.tuple #[.agg (Sp.back b).cells, .int .i64 (Sp.backE b)]) ∧ Below w.heap.size w w' := by
  have hoff : ∀ x, w.heap.size ≤ x → Off v x := fun x hx => hb.off hx
  have Hoff := Lib.hid hoff
  have Hb := Lib.hid hb
  obtain ⟨p, c, rfl, hp⟩ := hb
  have HR := Lib.hid (SpAt.new w Sp.zero)
  have HB0 := Lib.hid ((Below.refl w.heap.size w).alloc (Nat.le_refl _) (.cells Sp.zero.cells 66))
  have Hle := Lib.hid (Form.rst_le b 0 0 (Nat.zero_le _))
  have hzg : Sp.zero.cells.size = 25 := rfl
  have Hways := Lib.hid (Sp.took_ways b)
  clear hoff hp
  go_enter Try.func52, Try.ntmps52
  go_wp2_with (first
    | (refine wpList_alloc_zero rfl 66 rfl _ hz66 ?_)
    | (go_at_call 29
       refine (new_w _ _ _ _).mono ?_
       rintro r w1 ⟨rfl, hw1⟩
       have HR1 := Lib.hid (show SpAt w1 w.heap.size Sp.zero from by rw [hw1]; exact HR.out.kept (World.grownBy_alloc _ _ none) (by simp))
       have HB1 := Lib.hid (show Below w.heap.size w w1 from by rw [hw1]; exact HB0.out.alloc (by simp) _)
       have Hr1 := Lib.hid (show Rdr w1 (w.heap.size + 1) (.slice p b.length c) (0 : Nat) 0 from by rw [hw1]; have := heap_alloc_new (w.alloc (.cells Sp.zero.cells 66)) (.cells #[.slice p b.length c, .int .i64 0, .int .i64 0] 79); simpa [Rdr] using this)
       have Hb1 := Lib.hid (Hb.out.below HB1.out)
       have hs1 : (w.alloc (.cells Sp.zero.cells 66)).heap.size = w.heap.size + 1 := by simp
       rw [hs1]
       clear hw1 hs1)
    | (go_at_call 69
       refine (take_w _ _ b _ _ _ Hr1.out Hb1.out (Nat.zero_le _) hl (Hoff.out _ (Nat.le_succ _))).mono ?_
       intro r w2 ht
       obtain ⟨rfl, hm⟩ := took_of ht
       have Hr2 := Lib.hid hm.1
       have HB2 := Lib.hid (HB1.out.grown hm.2 HB1.out.size (fun k e => by cases e; exact Nat.le_succ _))
       have Hb2 := Lib.hid (Hb.out.below HB2.out)
       have HR2 := Lib.hid (HR1.out.kept hm.2 (by simp))
       have HN2 := Lib.hid (SpAt.new w2 Sp.zero)
       have hlt2 : w.heap.size < w2.heap.size := (Array.getElem?_eq_some_iff.1 HR2.out).1
       have hgt2 : w.heap.size + 1 < w2.heap.size := hm.1.lt
       clear hm ht)
    | (refine wpList_store_rowTo rfl 66 (.tmp 5) (.tmp 9) rfl rfl _ (Sp.took b).cells rfl rfl 66 Sp.zero.cells HN2.out (show _ = some 25 by kernel_rfl) rfl (cells_one _) ?_)
    | (go_at_call 35; fail))
  have hk3 : Keeps w2 ((w2.alloc (.cells Sp.zero.cells 66)).setRow w2.heap.size (Sp.took b).cells) := fun k hk => by
    rw [setRow_other _ _ _ _ (by omega), Below.heap_alloc w2 _ k hk]
  have hB3 : Below w2.heap.size w2 ((w2.alloc (.cells Sp.zero.cells 66)).setRow w2.heap.size (Sp.took b).cells) := ⟨rfl, rfl, rfl, by simp [World.setRow], hk3⟩
  have HB3 := Lib.hid (HB2.out.trans (hB3.mono (by omega)))
  have Hr3 := Lib.hid (Hr2.out.keeps hk3)
  have Hb3 := Lib.hid (Hb2.out.keeps hk3)
  have HR3 := Lib.hid (HR2.out.below hB3)
  have HN3 := Lib.hid (show SpAt ((w2.alloc (.cells Sp.zero.cells 66)).setRow w2.heap.size (Sp.took b).cells) w2.heap.size (Sp.took b) from setRow_heap _ _ _ _ _ _ HN2.out)
  generalize (w2.alloc (.cells Sp.zero.cells 66)).setRow w2.heap.size (Sp.took b).cells = w3 at *
  generalize w2.heap.size = N at *
  clear hk3 hB3 HN2
  rcases Hways.out with ⟨hg, ht, hd⟩ | ⟨hg, hd⟩
  · have HD := Lib.hid hd
    have HT := Lib.hid ht
    clear hd ht
    go_wp2_with (first
      | (go_at_call 35; refine (done_w _ _ b _ _ _ Hr3.out Hb3.out (Hle.out 25)).mono ?_; rintro r w4 ⟨rfl, hs⟩; rw [HD.out]; have HR4 := Lib.hid (HR3.out.below hs.below); have HN4 := Lib.hid (HN3.out.below hs.below); have HB4 := Lib.hid (HB3.out.trans hs.below); clear hs)
      | (refine wpList_load_row rfl 66 (.tmp 5) rfl _ rfl _ _ _ _ HN4.out Try.underlying66 rfl (show _ = some 25 by kernel_rfl) ?_)
      | (refine wpList_store_rowTo rfl 66 (.tmp 2) (.tmp 14) rfl rfl _ (Sp.took b).cells rfl rfl 66 Sp.zero.cells HR4.out (show _ = some 25 by kernel_rfl) rfl (cells_one _) ?_))
    have hres := setRow_heap w4 w.heap.size _ (Sp.took b).cells _ _ HR4.out
    refine bodyPost_ret (v := .tuple #[.agg (Sp.took b).cells, .int .i64 0]) (results_cell_tmp rfl _ _ w.heap.size 66 _ _ _ _ rfl rfl hres rfl Try.underlying66 (show _ = some 25 by kernel_rfl)) rfl ?_
    refine ⟨?_, ?_⟩
    · unfold Sp.back Sp.backE; rw [hg, HT.out]; rfl
    · exact HB4.out.trans ⟨rfl, rfl, rfl, by simp [World.setRow], fun k hk => setRow_other _ _ _ _ (by omega)⟩
  · have HD := Lib.hid hd
    generalize hE : Form.done b.length (Form.rst b 0 0 25).1 (Sp.tookE b) = E at *
    have hEn : E ≠ 0 := HD.out
    go_wp2_with (first
      | (go_at_call 35; refine (done_w _ _ b _ _ _ Hr3.out Hb3.out (Hle.out 25)).mono ?_; rintro r w4 ⟨rfl, hs⟩; rw [hE]; have HR4 := Lib.hid (HR3.out.below hs.below); have HB4 := Lib.hid (HB3.out.trans hs.below); clear hs)
      | (refine wpList_store_rowTo rfl 66 (.tmp 2) (.tmp 13) rfl rfl _ Sp.zero.cells rfl rfl 66 Sp.zero.cells HR4.out (show _ = some 25 by kernel_rfl) rfl (cells_one _) ?_))
    have hres := setRow_heap w4 w.heap.size _ Sp.zero.cells _ _ HR4.out
    refine bodyPost_ret (v := .tuple #[.agg Sp.zero.cells, .int .i64 5]) (results_cell_tmp rfl _ _ w.heap.size 66 _ _ _ _ rfl rfl hres rfl Try.underlying66 (show _ = some 25 by kernel_rfl)) rfl ?_
    refine ⟨?_, ?_⟩
    · unfold Sp.back Sp.backE; rw [hg]; rfl
    · exact HB4.out.trans ⟨rfl, rfl, rfl, by simp [World.setRow], fun k hk => setRow_other _ _ _ _ (by omega)⟩
end Go.Proofs.Ytpbdnndpdidagaa
