/- The data of a contract, read by the document: Take. -/
import Derived.Test.YtoflehlkacofjaaQfC12
namespace Go.Proofs.Ytoflehlkacofjaa
open Go.ChangeShapes Go.WideShapes Go.ChangeAt Go.RowKit
set_option linter.unusedVariables false
/-- Reading goes on: k numbers are read, j are laid down. -/
structure TR (w wr : World) (g : Nat) (T : TypeId) (b : List UInt8) (a : Nat) (e : Int) (N R B k j : Nat) : Prop where
  at_ : RAt wr g T b (Form.rst b a e k).1 (Form.rst b a e k).2 N
  sp : SpAt wr B ((Sp.taken b a e).trunc j)
  rz : SpAt wr R Sp.zero
  gr : w.grownBy wr (some g)
section
variable {w wr w1 : World} {g : Nat} {T : TypeId} {b : List UInt8} {a : Nat} {e : Int} {N R B k j : Nat}
theorem TR.read (h : TR w wr g T b a e N R B k j) (hm : RM wr w1 g T b (Form.rst b a e (k + 1)).1 (Form.rst b a e (k + 1)).2 N) (hR : R ≠ g) (hB : B ≠ g) : TR w w1 g T b a e N R B (k + 1) j :=
  ⟨hm.at_, h.sp.kept hm.grown (by simpa using hB), h.rz.kept hm.grown (by simpa using hR), h.gr.trans hm.grown⟩
theorem TR.lay (h : TR w wr g T b a e N R B k j) (hj : j < 25) (x : Value) (hx : (Sp.taken b a e).cells.getD j undef = x) (hN : N ≤ B) (hR : R ≠ B) (hB : B ≠ g) (hBw : w.heap.size ≤ B) : TR w (wr.setCell ⟨B, j, none⟩ x) g T b a e N R B k (j + 1) :=
  have hg := Lib.grownBy_setCell wr B j x
  ⟨h.at_.kept hg hN (Ne.symm hB), h.sp.set hj x hx, h.rz.kept hg (by simpa using hR),
    ⟨hg.os.trans h.gr.os, hg.tape.trans h.gr.tape, hg.output.trans h.gr.output, Nat.le_trans h.gr.size hg.size, fun k hk hne => by rw [hg.block k (Nat.lt_of_lt_of_le hk h.gr.size) (by simp; omega), h.gr.block k hk hne]⟩⟩
theorem RAt.cell1 (h : RAt w g T b a e N) : w.cell? ⟨g, 1, none⟩ = some (.int .i64 e) := by obtain ⟨v, hr, _⟩ := h; exact hr.cell1
theorem RAt.lt (h : RAt w g T b a e N) : g < w.heap.size := by obtain ⟨v, hr, _⟩ := h; exact hr.lt
end
theorem refsmall_z (g : Nat) (T : TypeId) (b : List UInt8) (a : Nat) (e : Int) (N : Nat) (z : Int) (most : Nat) (hz : z = (most : Int)) (w : World) (h : RAt w g T b a e N) (hg : N ≤ g) (ha : a ≤ b.length) (hl : b.length ≤ 1000000) (hm : most < 2 ^ 64) :
    Calls Try.prog 65 #[.pointer (some ⟨g, 0, none⟩), .int .u64 z] w fun r w' => ∃ n a' : Nat, ∃ e' : Int, Form.small b a e most = (n, a', e') ∧ r = .returned (.int .u64 (n : Int)) ∧ RM w w' g T b a' e' N := by
  subst hz; exact refsmall_w g T b a e N most w h hg ha hl hm
theorem built27e : Try.prog.built 27 [] = some Sp.zero.cells := by kernel_rfl
theorem exec_build27e {o : Oper} {e : Operand → Value} {W : World} (ho : o.op = .build 27 #[]) : (execOp e o).run Try.prog W = .ok (.value (.agg Sp.zero.cells)) W := by
  have h := run_build (P := Try.prog) W 27 #[] Sp.zero.cells built27e
  unfold execOp
  simp only [ho]
  simp [h]
/-- The data that it gives. -/
def Sp.rgot (b : List UInt8) (a : Nat) (e : Int) : Sp := if (Form.rst b a e 25).2 = 0 ∧ (Sp.taken b a e).mayB = true then Sp.taken b a e else Sp.zero
theorem Sp.rgot_ok (b : List UInt8) (a : Nat) (e : Int) : (Sp.rgot b a e).ok := by
  unfold Sp.rgot
  split
  · exact Sp.taken_ok b a e
  · exact Sp.zero_ok
theorem Sp.rgot_got (b : List UInt8) (a : Nat) (e : Int) (h : Sp.gotE b a e = 0) : Sp.rgot b a e = Sp.got b a e := by
  unfold Sp.gotE at h
  by_cases hm : (Sp.taken b a e).mayB = true
  · rw [if_pos hm] at h
    unfold Sp.rgot Sp.got
    rw [if_pos ⟨h, hm⟩, if_pos hm]
  · rw [if_neg hm] at h
    split at h
    · exact absurd h (by decide)
    · rename_i h2; exact absurd h h2
def RTook (w : World) (g : Nat) (T : TypeId) (b : List UInt8) (a : Nat) (e : Int) (N : Nat) (r : Ending) (w' : World) : Prop :=
  r = .returned (.agg (Sp.rgot b a e).cells) ∧ RM w w' g T b (Form.rst b a e 25).1 (Sp.gotE b a e) N
theorem setRow_RM {w W : World} {g R : Nat} {T : TypeId} {b : List UInt8} {a : Nat} {e : Int} {N : Nat} {cs : Array Value} (h : RAt W g T b a e N) (hg : w.grownBy W (some g)) (hR : w.heap.size ≤ R) (hN : N ≤ R) (hne : R ≠ g) : RM w (W.setRow R cs) g T b a e N := by
  have hgr : W.grownBy (W.setRow R cs) (some R) := ⟨rfl, rfl, rfl, by simp [World.setRow], fun k hk hne => setRow_other _ _ _ _ (by simpa using hne)⟩
  refine ⟨h.kept hgr hN (Ne.symm hne), ⟨hgr.os.trans hg.os, hgr.tape.trans hg.tape, hgr.output.trans hg.output, Nat.le_trans hg.size hgr.size, fun k hk hne => ?_⟩⟩
  rw [hgr.block k (Nat.lt_of_lt_of_le hk hg.size) (by simp; omega), hg.block k hk hne]
theorem rtook_bad {w w' : World} {g : Nat} {T : TypeId} {b : List UInt8} {a : Nat} {e : Int} {N : Nat} (h : (Form.rst b a e 25).2 ≠ 0) (hm : RM w w' g T b (Form.rst b a e 25).1 (if (Form.rst b a e 25).2 = 0 then 5 else (Form.rst b a e 25).2) N) : RTook w g T b a e N (.returned (.agg Sp.zero.cells)) w' := by
  rw [if_neg h] at hm
  refine ⟨?_, ?_⟩
  · unfold Sp.rgot; rw [if_neg (fun hh => h hh.1)]
  · unfold Sp.gotE; rw [if_neg h]; split <;> exact hm
theorem rtook_no {w w' : World} {g : Nat} {T : TypeId} {b : List UInt8} {a : Nat} {e : Int} {N : Nat} (h : (Form.rst b a e 25).2 = 0) (hb : (Sp.taken b a e).mayB = false) (hm : RM w w' g T b (Form.rst b a e 25).1 (if (Form.rst b a e 25).2 = 0 then 5 else (Form.rst b a e 25).2) N) : RTook w g T b a e N (.returned (.agg Sp.zero.cells)) w' := by
  refine ⟨?_, ?_⟩
  · unfold Sp.rgot; rw [if_neg (fun hh => by rw [hb] at hh; cases hh.2)]
  · unfold Sp.gotE; rw [hb]; exact hm
theorem rtook_yes {w w' : World} {g : Nat} {T : TypeId} {b : List UInt8} {a : Nat} {e : Int} {N : Nat} (h : (Form.rst b a e 25).2 = 0) (hb : (Sp.taken b a e).mayB = true) (hm : RM w w' g T b (Form.rst b a e 25).1 (Form.rst b a e 25).2 N) : RTook w g T b a e N (.returned (.agg (Sp.taken b a e).cells)) w' := by
  refine ⟨?_, ?_⟩
  · unfold Sp.rgot; rw [if_pos ⟨h, hb⟩]
  · unfold Sp.gotE; rw [hb]; exact hm

set_option maxRecDepth 100000 in
set_option maxHeartbeats 6400000 in
theorem reftake68_w (g : Nat) (T : TypeId) (b : List UInt8) (a : Nat) (e : Int) (N : Nat) (w : World) (h : RAt w g T b a e N) (hNg : N ≤ g) (ha : a ≤ b.length) (hl : b.length ≤ 1000000) : Calls Try.prog 68 #[.pointer (some ⟨g, 0, none⟩)] w (RTook w g T b a e N) := by
  have hgl := h.lt
  have Hle := Lib.hid (Form.rst_le b a e ha)
  have H0 := Lib.hid (show TR w ((w.alloc (.cells Sp.zero.cells 27)).alloc (.cells Sp.zero.cells 27)) g T b a e N w.heap.size (w.heap.size + 1) 0 0 from by
    have k1 : Keeps w (w.alloc (.cells Sp.zero.cells 27)) := (Keeps.refl w).alloc _
    have k2 : Keeps (w.alloc (.cells Sp.zero.cells 27)) ((w.alloc (.cells Sp.zero.cells 27)).alloc (.cells Sp.zero.cells 27)) := (Keeps.refl _).alloc _
    refine ⟨(h.keeps k1).keeps k2, ?_, ?_, (World.grownBy_alloc w (.cells Sp.zero.cells 27) (some g)).trans (World.grownBy_alloc _ (.cells Sp.zero.cells 27) (some g))⟩
    · have := SpAt.new (w.alloc (.cells Sp.zero.cells 27)) Sp.zero
      rw [heap_alloc_size] at this
      exact this
    · have := SpAt.new w Sp.zero
      unfold SpAt at *
      rw [Below.heap_alloc _ _ _ (by simp)]
      exact this)
  obtain ⟨W0, hW0⟩ : ∃ W0, (w.alloc (.cells Sp.zero.cells 27)).alloc (.cells Sp.zero.cells 27) = W0 := ⟨_, rfl⟩
  rw [hW0] at H0
  have HW0 := Lib.hid hW0
  have hsz : (w.alloc (.cells Sp.zero.cells 27)).heap.size = w.heap.size + 1 := heap_alloc_size w _
  clear h hW0
  go_enter Try.func68, Try.ntmps68
  go_upto_region 2 with (refine wpList_alloc_zero rfl 27 rfl _ hz66 ?_)
  rw [HW0.out]
  try rw [hsz]
  clear HW0 hsz
  obtain ⟨B, hB⟩ : ∃ B, w.heap.size + 1 = B := ⟨_, rfl⟩
  rw [hB] at H0
  try rw [hB]
  have hBg : B ≠ g := by omega
  have hRg : w.heap.size ≠ g := by omega
  have hRB : w.heap.size ≠ B := by omega
  have hNB : N ≤ B := by omega
  have hNR : N ≤ w.heap.size := by omega
  have hBw : w.heap.size ≤ B := by omega
  clear hB
  have Q0 := Lib.hid (Form.rst_step b a e 0)
  have V0 := Form.rv_le b a e 0
  rw [show Form.mst 0 = 4294967295 from rfl] at V0 Q0
  have W0 : IntKind.u32.wrap (Form.rv b a e 0 : Int) = (Form.rv b a e 0 : Int) := IntWalk.u32_in _ (by omega)
  have C0 := Lib.hid (show (Sp.taken b a e).cells.getD 0 undef = .int .u32 (Form.rv b a e 0 : Nat) from rfl)
  have Q1 := Lib.hid (Form.rst_step b a e 1)
  have V1 := Form.rv_le b a e 1
  rw [show Form.mst 1 = 255 from rfl] at V1 Q1
  have W1 : IntKind.u8.wrap (Form.rv b a e 1 : Int) = (Form.rv b a e 1 : Int) := IntWalk.u8_in _ (by omega)
  have C1 := Lib.hid (show (Sp.taken b a e).cells.getD 1 undef = .int .u8 (Form.rv b a e 1 : Nat) from rfl)
  have Q2 := Lib.hid (Form.rst_step b a e 2)
  have V2 := Form.rv_le b a e 2
  rw [show Form.mst 2 = 9223372036854775807 from rfl] at V2 Q2
  have W2 : IntKind.i64.wrap (Form.rv b a e 2 : Int) = (Form.rv b a e 2 : Int) := IntWalk.i64_in _ (by omega)
  have C2 := Lib.hid (show (Sp.taken b a e).cells.getD 2 undef = .int .i64 (Form.rv b a e 2 : Nat) from rfl)
  have Q3 := Lib.hid (Form.rst_step b a e 3)
  have V3 := Form.rv_le b a e 3
  rw [show Form.mst 3 = 9223372036854775807 from rfl] at V3 Q3
  have W3 : IntKind.i64.wrap (Form.rv b a e 3 : Int) = (Form.rv b a e 3 : Int) := IntWalk.i64_in _ (by omega)
  have C3 := Lib.hid (show (Sp.taken b a e).cells.getD 3 undef = .int .i64 (Form.rv b a e 3 : Nat) from rfl)
  have Q4 := Lib.hid (Form.rst_step b a e 4)
  have V4 := Form.rv_le b a e 4
  rw [show Form.mst 4 = 9223372036854775807 from rfl] at V4 Q4
  have W4 : IntKind.i64.wrap (Form.rv b a e 4 : Int) = (Form.rv b a e 4 : Int) := IntWalk.i64_in _ (by omega)
  have C4 := Lib.hid (show (Sp.taken b a e).cells.getD 4 undef = .int .i64 (Form.rv b a e 4 : Nat) from rfl)
  have Q5 := Lib.hid (Form.rst_step b a e 5)
  have V5 := Form.rv_le b a e 5
  rw [show Form.mst 5 = 9223372036854775807 from rfl] at V5 Q5
  have W5 : IntKind.i64.wrap (Form.rv b a e 5 : Int) = (Form.rv b a e 5 : Int) := IntWalk.i64_in _ (by omega)
  have C5 := Lib.hid (show (Sp.taken b a e).cells.getD 5 undef = .int .i64 (Form.rv b a e 5 : Nat) from rfl)
  go_upto_region 8 with (go_at_call 65; first
    | (with_reducible refine (refsmall_z g T b (Form.rst b a e 0).1 (Form.rst b a e 0).2 N 4294967295 4294967295 rfl _ H0.out.at_ hNg (Hle.out 0) hl (by decide)).mono ?_
       rintro r x0 ⟨n', a', e', h1, rfl, hm⟩
       rw [Q0.out] at h1
       cases h1
       have T0 := Lib.hid (H0.out.read hm hRg hBg)
       obtain ⟨old0, hc0⟩ := T0.out.sp.cell_some 0 (by omega)
       have hf0 := T0.out.sp.frozen 0
       have H1 := Lib.hid (T0.out.lay (by omega) _ C0.out hNB hRB hBg (by omega))
       clear hm)
    | (with_reducible refine (refsmall_z g T b (Form.rst b a e 1).1 (Form.rst b a e 1).2 N 255 255 rfl _ H1.out.at_ hNg (Hle.out 1) hl (by decide)).mono ?_
       rintro r x1 ⟨n', a', e', h1, rfl, hm⟩
       rw [Q1.out] at h1
       cases h1
       have T1 := Lib.hid (H1.out.read hm hRg hBg)
       obtain ⟨old1, hc1⟩ := T1.out.sp.cell_some 1 (by omega)
       have hf1 := T1.out.sp.frozen 1
       have H2 := Lib.hid (T1.out.lay (by omega) _ C1.out hNB hRB hBg (by omega))
       clear hm)
    | (with_reducible refine (refsmall_z g T b (Form.rst b a e 2).1 (Form.rst b a e 2).2 N 9223372036854775807 9223372036854775807 rfl _ H2.out.at_ hNg (Hle.out 2) hl (by decide)).mono ?_
       rintro r x2 ⟨n', a', e', h1, rfl, hm⟩
       rw [Q2.out] at h1
       cases h1
       have T2 := Lib.hid (H2.out.read hm hRg hBg)
       obtain ⟨old2, hc2⟩ := T2.out.sp.cell_some 2 (by omega)
       have hf2 := T2.out.sp.frozen 2
       have H3 := Lib.hid (T2.out.lay (by omega) _ C2.out hNB hRB hBg (by omega))
       clear hm)
    | (with_reducible refine (refsmall_z g T b (Form.rst b a e 3).1 (Form.rst b a e 3).2 N 9223372036854775807 9223372036854775807 rfl _ H3.out.at_ hNg (Hle.out 3) hl (by decide)).mono ?_
       rintro r x3 ⟨n', a', e', h1, rfl, hm⟩
       rw [Q3.out] at h1
       cases h1
       have T3 := Lib.hid (H3.out.read hm hRg hBg)
       obtain ⟨old3, hc3⟩ := T3.out.sp.cell_some 3 (by omega)
       have hf3 := T3.out.sp.frozen 3
       have H4 := Lib.hid (T3.out.lay (by omega) _ C3.out hNB hRB hBg (by omega))
       clear hm)
    | (with_reducible refine (refsmall_z g T b (Form.rst b a e 4).1 (Form.rst b a e 4).2 N 9223372036854775807 9223372036854775807 rfl _ H4.out.at_ hNg (Hle.out 4) hl (by decide)).mono ?_
       rintro r x4 ⟨n', a', e', h1, rfl, hm⟩
       rw [Q4.out] at h1
       cases h1
       have T4 := Lib.hid (H4.out.read hm hRg hBg)
       obtain ⟨old4, hc4⟩ := T4.out.sp.cell_some 4 (by omega)
       have hf4 := T4.out.sp.frozen 4
       have H5 := Lib.hid (T4.out.lay (by omega) _ C4.out hNB hRB hBg (by omega))
       clear hm)
    | (with_reducible refine (refsmall_z g T b (Form.rst b a e 5).1 (Form.rst b a e 5).2 N 9223372036854775807 9223372036854775807 rfl _ H5.out.at_ hNg (Hle.out 5) hl (by decide)).mono ?_
       rintro r x5 ⟨n', a', e', h1, rfl, hm⟩
       rw [Q5.out] at h1
       cases h1
       have T5 := Lib.hid (H5.out.read hm hRg hBg)
       obtain ⟨old5, hc5⟩ := T5.out.sp.cell_some 5 (by omega)
       have hf5 := T5.out.sp.frozen 5
       have H6 := Lib.hid (T5.out.lay (by omega) _ C5.out hNB hRB hBg (by omega))
       clear hm))
  have HT0 := Lib.hid (show TR w _ g T b a e N w.heap.size B (6 + 0) (6 + 0) from H6.out)
  clear hc0 hf0 V0 W0 hc1 hf1 V1 W1 hc2 hf2 V2 W2 hc3 hf3 V3 W3 hc4 hf4 V4 W4 hc5 hf5 V5 W5
  clear H0 H1 H2 H3 H4 H5 T0 T1 T2 T3 T4 T5
  go_wp2
  go_loopw [4] (fun i wr => ∃ k : Nat, k ≤ 16 ∧ i = .int .i64 (k : Int) ∧ TR w wr g T b a e N w.heap.size B (6 + k) (6 + k)) (fun i _ => 16 - (intOf i).toNat)
  case atStart => exact ⟨0, by decide, rfl, HT0.out⟩
  case round =>
    obtain ⟨k, hk, rfl, hT⟩ := hrel
    have HT := Lib.hid hT
    clear hT HT0 H6
    by_cases hlt : k < 16
    · have hmk : Form.mst (6 + k) = 18446744073709551615 := by
        have h : k = 0 ∨ k = 1 ∨ k = 2 ∨ k = 3 ∨ k = 4 ∨ k = 5 ∨ k = 6 ∨ k = 7 ∨ k = 8 ∨ k = 9 ∨ k = 10 ∨ k = 11 ∨ k = 12 ∨ k = 13 ∨ k = 14 ∨ k = 15 := by omega
        rcases h with rfl | rfl | rfl | rfl | rfl | rfl | rfl | rfl | rfl | rfl | rfl | rfl | rfl | rfl | rfl | rfl <;> rfl
      have hcv : (Sp.taken b a e).cells.getD (6 + k) undef = .int .i64 (Form.unfold_ (Form.rv b a e (6 + k))) := by
        have h : k = 0 ∨ k = 1 ∨ k = 2 ∨ k = 3 ∨ k = 4 ∨ k = 5 ∨ k = 6 ∨ k = 7 ∨ k = 8 ∨ k = 9 ∨ k = 10 ∨ k = 11 ∨ k = 12 ∨ k = 13 ∨ k = 14 ∨ k = 15 := by omega
        rcases h with rfl | rfl | rfl | rfl | rfl | rfl | rfl | rfl | rfl | rfl | rfl | rfl | rfl | rfl | rfl | rfl <;> rfl
      have hst := Form.rst_step b a e (6 + k)
      rw [hmk] at hst
      have SK := Lib.hid (refrint_w g T b (Form.rst b a e (6 + k)).1 (Form.rst b a e (6 + k)).2 N wr HT.out.at_ hNg (Hle.out _) hl)
      have Hst := Lib.hid hst
      have Hcv := Lib.hid hcv
      clear hmk hst hcv
      generalize hn : Form.rv b a e (6 + k) = n at *
      clear hn
      go_wp2_with (
        go_at_call 67
        with_reducible refine (SK.out).mono ?_
        rintro r w5 ⟨n', a', e', h1, rfl, hm⟩
        rw [Hst.out] at h1
        cases h1
        have HT5 := Lib.hid (HT.out.read hm hRg hBg)
        have hcc := HT5.out.sp.cell_some (6 + k) (by omega)
        have hff := HT5.out.sp.frozen (6 + k)
        obtain ⟨old, hcc⟩ := hcc
        clear hm)
      go_roundw
      case rel => exact ⟨k + 1, by omega, by go_num, HT5.out.lay (by omega) _ Hcv.out hNB hRB hBg (by omega)⟩
      case measure => simp [intOf]; omega
    · have hk16 : k = 16 := by omega
      subst hk16
      have H22 := Lib.hid (show TR w wr g T b a e N w.heap.size B 22 22 from HT.out)
      have Q22 := Lib.hid (Form.rst_step b a e 22)
      have V22 := Form.rv_le b a e 22
      rw [show Form.mst 22 = 9223372036854775807 from rfl] at V22 Q22
      have W22 : IntKind.i64.wrap (Form.rv b a e 22 : Int) = (Form.rv b a e 22 : Int) := IntWalk.i64_in _ (by omega)
      have C22 := Lib.hid (show (Sp.taken b a e).cells.getD 22 undef = .int .i64 (Form.rv b a e 22 : Nat) from rfl)
      have Q23 := Lib.hid (Form.rst_step b a e 23)
      have V23 := Form.rv_le b a e 23
      rw [show Form.mst 23 = 4294967295 from rfl] at V23 Q23
      have W23 : IntKind.u32.wrap (Form.rv b a e 23 : Int) = (Form.rv b a e 23 : Int) := IntWalk.u32_in _ (by omega)
      have C23 := Lib.hid (show (Sp.taken b a e).cells.getD 23 undef = .int .u32 (Form.rv b a e 23 : Nat) from rfl)
      have Q24 := Lib.hid (Form.rst_step b a e 24)
      have V24 := Form.rv_le b a e 24
      rw [show Form.mst 24 = 9223372036854775807 from rfl] at V24 Q24
      have W24 : IntKind.i64.wrap (Form.rv b a e 24 : Int) = (Form.rv b a e 24 : Int) := IntWalk.i64_in _ (by omega)
      have C24 := Lib.hid (show (Sp.taken b a e).cells.getD 24 undef = .int .i64 (Form.rv b a e 24 : Nat) from rfl)
      clear HT
      go_upto_region 15 with (go_at_call 65; first
        | (with_reducible refine (refsmall_z g T b (Form.rst b a e 22).1 (Form.rst b a e 22).2 N 9223372036854775807 9223372036854775807 rfl _ H22.out.at_ hNg (Hle.out 22) hl (by decide)).mono ?_
           rintro r x22 ⟨n', a', e', h1, rfl, hm⟩
           rw [Q22.out] at h1
           cases h1
           have T22 := Lib.hid (H22.out.read hm hRg hBg)
           obtain ⟨old22, hc22⟩ := T22.out.sp.cell_some 22 (by omega)
           have hf22 := T22.out.sp.frozen 22
           have H23 := Lib.hid (T22.out.lay (by omega) _ C22.out hNB hRB hBg (by omega))
           clear hm)
        | (with_reducible refine (refsmall_z g T b (Form.rst b a e 23).1 (Form.rst b a e 23).2 N 4294967295 4294967295 rfl _ H23.out.at_ hNg (Hle.out 23) hl (by decide)).mono ?_
           rintro r x23 ⟨n', a', e', h1, rfl, hm⟩
           rw [Q23.out] at h1
           cases h1
           have T23 := Lib.hid (H23.out.read hm hRg hBg)
           obtain ⟨old23, hc23⟩ := T23.out.sp.cell_some 23 (by omega)
           have hf23 := T23.out.sp.frozen 23
           have H24 := Lib.hid (T23.out.lay (by omega) _ C23.out hNB hRB hBg (by omega))
           clear hm)
        | (with_reducible refine (refsmall_z g T b (Form.rst b a e 24).1 (Form.rst b a e 24).2 N 9223372036854775807 9223372036854775807 rfl _ H24.out.at_ hNg (Hle.out 24) hl (by decide)).mono ?_
           rintro r x24 ⟨n', a', e', h1, rfl, hm⟩
           rw [Q24.out] at h1
           cases h1
           have T24 := Lib.hid (H24.out.read hm hRg hBg)
           obtain ⟨old24, hc24⟩ := T24.out.sp.cell_some 24 (by omega)
           have hf24 := T24.out.sp.frozen 24
           have H25 := Lib.hid (T24.out.lay (by omega) _ C24.out hNB hRB hBg (by omega))
           clear hm))
      have HS25 := Lib.hid (show SpAt _ B (Sp.taken b a e) from H25.out.sp)
      have ce := H25.out.at_.cell1
      clear hc22 hf22 hc23 hf23 hc24 hf24 V22 V23 V24 W22 W23 W24
      have HM := Lib.hid (fun W => refmay_w (Sp.taken b a e) W (Sp.taken_ok b a e))
      obtain ⟨mb, hmb⟩ : ∃ mb, (Sp.taken b a e).mayB = mb := ⟨_, rfl⟩
      have Hmb := Lib.hid hmb
      rw [hmb] at HM
      clear hmb
      obtain ⟨W9, hW9⟩ : ∃ W9, x24.setCell ⟨B, 24, none⟩ (.int .i64 (Form.rv b a e 24 : Nat)) = W9 := ⟨_, rfl⟩
      rw [hW9] at H25 HS25 ce
      rw [hW9]
      clear hW9
      obtain ⟨ef, hef⟩ : ∃ ef, (Form.rst b a e 25).2 = ef := ⟨_, rfl⟩
      rw [hef] at ce
      have Hef := Lib.hid hef
      clear hef
      by_cases h0 : ef = 0
      · subst h0
        cases mb with
        | true =>
          go_wp2_with (first
            | (refine wpList_load_sp (w := W9) rfl (.tmp 3) rfl rfl HS25.out ?_)
            | (go_at_call 57; refine (HM.out _).mono ?_; rintro r w8 ⟨rfl, hB⟩; have HS8 := Lib.hid (HS25.out.below hB); have HZ8 := Lib.hid (H25.out.rz.below hB); have HR8 := Lib.hid (H25.out.at_.keeps (show Keeps W9 w8 from hB.block)); have HG8 := Lib.hid (H25.out.gr.trans (below_grown' hB)); clear hB)
            | (refine wpList_load_sp (w := w8) rfl (.tmp 3) rfl rfl HS8.out ?_)
            | (refine wpList_store_rowTo rfl 27 (.tmp 2) (.tmp 63) rfl rfl _ (Sp.taken b a e).cells rfl rfl 27 Sp.zero.cells HZ8.out (show _ = some 25 by kernel_rfl) rfl (cells_one _) ?_))
          have hres := setRow_heap w8 w.heap.size _ (Sp.taken b a e).cells _ _ HZ8.out
          refine bodyPost_ret (v := .agg (Sp.taken b a e).cells) (results_cell_row rfl _ _ w.heap.size 27 _ _ _ rfl hres Try.underlying27 rfl (show _ = some 25 by kernel_rfl)) rfl ?_
          exact rtook_yes Hef.out Hmb.out (setRow_RM HR8.out HG8.out (Nat.le_refl _) hNR hRg)
        | false =>
          go_wp2_with (first
            | (refine wpList_load_sp (w := W9) rfl (.tmp 3) rfl rfl HS25.out ?_)
            | (go_at_call 57; refine (HM.out _).mono ?_; rintro r w8 ⟨rfl, hB⟩; have HZ8 := Lib.hid (H25.out.rz.below hB); have HR8 := Lib.hid (H25.out.at_.keeps (show Keeps W9 w8 from hB.block)); have HG8 := Lib.hid (H25.out.gr.trans (below_grown' hB)); clear hB)
            | (go_at_call 82; refine (refrfail_w g T b _ _ (5 : Int) N _ HR8.out hNg).mono ?_; rintro r w9 ⟨rfl, hm⟩; have HR9 := Lib.hid hm.at_; have HG9 := Lib.hid (HG8.out.trans hm.grown); have HZ9 := Lib.hid (HZ8.out.kept hm.grown (by simpa using hRg)); clear hm)
            | (refine wpList_plain_value (v := .agg Sp.zero.cells) rfl (exec_build27e rfl) ?_)
            | (refine wpList_store_rowTo rfl 27 (.tmp 2) (.tmp 62) rfl rfl _ Sp.zero.cells rfl rfl 27 Sp.zero.cells HZ9.out (show _ = some 25 by kernel_rfl) rfl (cells_one _) ?_))
          have hres := setRow_heap w9 w.heap.size _ Sp.zero.cells _ _ HZ9.out
          refine bodyPost_ret (v := .agg Sp.zero.cells) (results_cell_row rfl _ _ w.heap.size 27 _ _ _ rfl hres Try.underlying27 rfl (show _ = some 25 by kernel_rfl)) rfl ?_
          exact rtook_no Hef.out Hmb.out (setRow_RM HR9.out HG9.out (Nat.le_refl _) hNR hRg)
      · have hne : (ef != 0) = true := by simpa using h0
        have HE0 := Lib.hid (show (Form.rst b a e 25).2 ≠ 0 from by rw [Hef.out]; exact h0)
        clear h0
        go_wp2_with (first
          | (go_at_call 82; refine (refrfail_w g T b _ _ (5 : Int) N _ H25.out.at_ hNg).mono ?_; rintro r w9 ⟨rfl, hm⟩; have HR9 := Lib.hid hm.at_; have HG9 := Lib.hid (H25.out.gr.trans hm.grown); have HZ9 := Lib.hid (H25.out.rz.kept hm.grown (by simpa using hRg)); clear hm)
          | (refine wpList_plain_value (v := .agg Sp.zero.cells) rfl (exec_build27e rfl) ?_)
          | (refine wpList_store_rowTo rfl 27 (.tmp 2) (.tmp 62) rfl rfl _ Sp.zero.cells rfl rfl 27 Sp.zero.cells HZ9.out (show _ = some 25 by kernel_rfl) rfl (cells_one _) ?_))
        have hres := setRow_heap w9 w.heap.size _ Sp.zero.cells _ _ HZ9.out
        refine bodyPost_ret (v := .agg Sp.zero.cells) (results_cell_row rfl _ _ w.heap.size 27 _ _ _ rfl hres Try.underlying27 rfl (show _ = some 25 by kernel_rfl)) rfl ?_
        exact rtook_bad HE0.out (setRow_RM HR9.out HG9.out (Nat.le_refl _) hNR hRg)
end Go.Proofs.Ytoflehlkacofjaa
