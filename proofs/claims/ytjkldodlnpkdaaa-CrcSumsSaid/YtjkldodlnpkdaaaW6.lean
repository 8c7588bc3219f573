/- Walk of the law on the residue. -/
import Derived.Test.YtjkldodlnpkdaaaW5
import Derived.Test.YtjkldodlnpkdaaaReg
namespace Go.Proofs.Ytjkldodlnpkdaaa
open Go.ChangeShapes Go.WideShapes Go.ChangeAt Go.RowKit
set_option linter.unusedVariables false

/-- A slice of one slice, in a new block. -/
theorem RdBs_one {w : World} {v : Value} {l : List UInt8} (h : RdB w v l) (cap g : Nat) (hg : g = w.heap.size) (h1 : 1 ≤ cap := by decide) (h2 : cap ≤ maxLen := by decide) : RdBs (w.alloc (.cells #[v] 23)) (.slice (some ⟨g, 0, none⟩) 1 cap) [l] := by
  subst hg
  refine RdBs_of_block (vs := [v]) (heap_alloc_new w _) rfl h1 h2 ?_ rfl ?_
  · intro i hi
    match i, hi with
    | 0, _ => rfl
  · intro i hi
    match i, hi with
    | 0, _ => exact h.below ((Below.refl _ _).alloc (Nat.le_refl _) _)
theorem RdBs_two {w : World} {v v' : Value} {l l' : List UInt8} (h : RdB w v l) (h' : RdB w v' l') (cap g : Nat) (hg : g = w.heap.size) (h1 : 2 ≤ cap := by decide) (h2 : cap ≤ maxLen := by decide) : RdBs (w.alloc (.cells #[v, v'] 23)) (.slice (some ⟨g, 0, none⟩) 2 cap) [l, l'] := by
  subst hg
  refine RdBs_of_block (vs := [v, v']) (heap_alloc_new w _) rfl h1 h2 ?_ rfl ?_
  · intro i hi
    match i, hi with
    | 0, _ => rfl
    | 1, _ => rfl
  · intro i hi
    match i, hi with
    | 0, _ => exact h.below ((Below.refl _ _).alloc (Nat.le_refl _) _)
    | 1, _ => exact h'.below ((Below.refl _ _).alloc (Nat.le_refl _) _)

/-- The sum of one part, laid as the call lays it. -/
theorem sum_one (v : Value) (l : List UInt8) (w : World) (g : Nat) (hr : RdB w v l) (hg : g = w.heap.size) (hl : l.length ≤ 1000000) (W : World) (hW : W.heap = (w.alloc (.cells #[v] 23)).heap) (s : Nat) (hs : Crc.sum l = s) :
    Calls Try.prog 11 #[.slice (some ⟨g, 0, none⟩) 1 1] W fun e w' => e = .returned (.int .u32 (s : Int)) ∧ Below W.heap.size W w' ∧ w.heap.size < w'.heap.size := by
  have h1 := RdBs_one hr 1 g hg
  have h2 : RdBs W (.slice (some ⟨g, 0, none⟩) 1 1) [l] := h1.keeps (.of_heap hW)
  refine (sum_w _ [l] W h2 (by simp) (by intro i hi; match i, hi with | 0, _ => simpa using hl)).mono ?_
  rintro e w' ⟨rfl, hb⟩
  refine ⟨by simp [hs], hb, ?_⟩
  have := hb.size
  rw [hW, heap_alloc_size] at this
  omega
theorem hel : Elem Try.prog 23 5 (.int .u8 0) 1 1 := ⟨Try.underlying23, by kernel_rfl, rfl, by decide⟩
/-- From world to world: what was there when the call began, and what was there at 'w0', are still there. -/
theorem next_world {B : Nat} {s w0 w1 w2 : World} (h : Below B s w0) (hb : Below w1.heap.size w1 w2) (hk : Keeps w0 w1) (ho : w1.os = w0.os := by rfl) (ht : w1.tape = w0.tape := by rfl) (hp : w1.output = w0.output := by rfl) (hB : B ≤ w0.heap.size := by omega) :
    Below B s w2 ∧ Keeps w0 w2 :=
  ⟨h.trans ⟨hb.os.trans ho, hb.tape.trans ht, hb.output.trans hp, Nat.le_trans (keeps_lt hk) hb.size, fun k hk' => (hb.block k (by have := keeps_lt hk; omega)).trans (hk k (by omega))⟩, hk.trans hb.block⟩
/-- One alloc, then a call that only grows. -/
theorem next_call {s w0 w2 : World} (h : Below s.heap.size s w0) (o : Obj) (hb : Below (w0.alloc o).heap.size (w0.alloc o) w2) : Below s.heap.size s w2 :=
  (h.alloc h.size o).trans (hb.mono (by rw [heap_alloc_size]; have := h.size; omega))
/-- A slice of this one part. -/
def OneB (l : List UInt8) (v : Value) (w : World) : Prop := ∃ g, v = .slice (some ⟨g, 0, none⟩) 1 1 ∧ RdBs w v [l]
theorem OneB.grow {l : List UInt8} {v : Value} {x y : World} (h : OneB l v x) (hR : RegT.Grow x y) : OneB l v y := by
  obtain ⟨g, e, h⟩ := h
  exact ⟨g, e, h.keeps hR.block⟩
theorem OneB_new {l : List UInt8} {v : Value} {w : World} (h : RdB w v l) : OneB l (.slice (some ⟨w.heap.size, 0, none⟩) 1 1) (w.alloc (.cells #[v] 23)) ∧ RegT.Grow w (w.alloc (.cells #[v] 23)) :=
  ⟨⟨_, rfl, RdBs_one h 1 _ rfl⟩, (Below.refl _ _).alloc (Nat.le_refl _) _⟩
theorem sum_ok {l : List UInt8} {v : Value} {w : World} (h : OneB l v w) (hl : l.length ≤ 1000000) (s : Nat) (hs : Crc.sum l = s) :
    RegT.OpOK Try.prog (.ok (.enter 11 #[v]) w) fun v' w' => v' = .int .u32 (s : Int) ∧ RegT.Grow w w' := by
  obtain ⟨g, rfl, h⟩ := h
  refine RegT.OpOK_enter (sum_w _ [l] w h (by simp) (by intro i hi; match i, hi with | 0, _ => simpa using hl)) ?_
  rintro e w' ⟨rfl, hb⟩
  exact ⟨_, rfl, by simp [hs], hb⟩
theorem known_ok (w : World) : RegT.OpOK Try.prog (.ok (.enter 10 #[]) w) fun v' w' => v' = .bool true ∧ RegT.Grow w w' := by
  refine RegT.OpOK_enter (known_w w) ?_
  rintro e w' ⟨rfl, hb⟩
  exact ⟨_, rfl, rfl, hb⟩

theorem sum_two (v v' : Value) (l l' : List UInt8) (w : World) (g : Nat) (hr : RdB w v l) (hr' : RdB w v' l') (hg : g = w.heap.size) (hl : l.length ≤ 1000000) (hl' : l'.length ≤ 1000000) (s : Nat) (hs : Crc.sum (l ++ l') = s) :
    Calls Try.prog 11 #[.slice (some ⟨g, 0, none⟩) 2 2] (w.alloc (.cells #[v, v'] 23)) fun e w' => e = .returned (.int .u32 (s : Int)) ∧ Below (w.alloc (.cells #[v, v'] 23)).heap.size (w.alloc (.cells #[v, v'] 23)) w' := by
  refine (sum_w _ [l, l'] _ (RdBs_two hr hr' 2 g hg) (by simp) (by intro i hi; match i, hi with | 0, _ => simpa using hl | 1, _ => simpa using hl')).mono ?_
  rintro e w' ⟨rfl, hb⟩
  exact ⟨by simp [hs], hb⟩
theorem RdB_four {w : World} (n : Nat) (hn : n < 2 ^ 32) : RdB (w.alloc (.cells #[.int .u8 (↑n % 256), .int .u8 (↑n / 256 % 256), .int .u8 (↑n / 65536 % 256), .int .u8 (↑n / 16777216)] 5)) (.slice (some ⟨w.heap.size, 0, none⟩) 4 4) (Crc.four n) := by
  refine RdB_of_block (heap_alloc_new w _) rfl (by decide) (by decide) ?_
  intro i hi
  match i, hi with
  | 0, _ => simp [Crc.four]
  | 1, _ => simp [Crc.four]
  | 2, _ => simp [Crc.four]
  | 3, _ => simp [Crc.four]; omega

set_option maxHeartbeats 400000 in
theorem residue_w (v : Value) (l : List UInt8) (w : World) (hr : RdB w v l) (hbig : l.length ≤ 9223372036854775807) : Calls Try.prog 6 #[v] w fun e w' => e = .returned (.bool true) ∧ Below w.heap.size w w' := by
  have hr0 := hr
  have Hr := Lib.hid hr0
  clear hr0
  obtain ⟨p, cap, rfl, hp⟩ := hr
  clear hp
  by_cases hl : l.length ≤ 20000
  · go_enter Try.func6, Try.ntmps6
    go_wp2_with fail
    refine (sum_w _ [l] _ (RdBs_one Hr.out 1 _ rfl) (by simp) (by intro i hi; match i, hi with | 0, _ => simp; omega)).mono ?_
    rintro e w1 ⟨rfl, hb1⟩
    have e1 : Crc.sum [l].flatten = Crc.sum l := by simp
    rw [e1]
    clear e1
    have hs := Crc.sum_lt l
    have hres := Crc.residue l
    generalize hn : Crc.sum l = n at *
    have Hn := Lib.hid hn
    have Hres := Lib.hid hres
    have Hb1 := Lib.hid hb1
    have hz : w.heap.size + 1 ≤ w1.heap.size := by have := hb1.size; simpa using this
    clear hn hres hb1
    go_wp2_with fail
    refine (sum_w _ [l, Crc.four n] _ (RdBs_two ?_ (RdB_four n hs) 2 _ (by simp)) (by simp) (by intro i hi; match i, hi with | 0, _ => simp; omega | 1, _ => simp [Crc.four])).mono ?_
    · exact ((Hr.out.below ((Below.refl _ _).alloc (Nat.le_refl _) _)).below Hb1.out).below ((Below.refl _ _).alloc (Nat.le_refl _) _)
    rintro e w2 ⟨rfl, hb2⟩
    rw [show Crc.sum [l, Crc.four n].flatten = 558161692 from by simpa using Hres.out]
    have Hb2 := Lib.hid hb2
    have hz2 : w1.heap.size + 2 ≤ w2.heap.size := by have := hb2.size; simpa using this
    clear hb2 Hres
    go_wp2_with (go_at_call 10; refine (known_w _).mono ?_; rintro e w3 ⟨rfl, hb3⟩)
    go_ret
    refine ⟨rfl, ?_⟩
    have b1 : Below w.heap.size w w1 := ((Below.refl _ _).alloc (Nat.le_refl _) _).trans (Hb1.out.mono (by simp))
    have b2 : Below w.heap.size w w2 := ((b1.alloc b1.size _).alloc (by simp; omega) _).trans (Hb2.out.mono (by simp; omega))
    exact b2.trans (hb3.mono b2.size)
  · go_enter Try.func6, Try.ntmps6
    go_wp2_with (go_at_call 10; refine (known_w _).mono ?_; rintro e w1 ⟨rfl, hb1⟩)
    go_ret
    exact ⟨rfl, hb1⟩
end Go.Proofs.Ytjkldodlnpkdaaa
