/- Walk of Take. -/
import Derived.Test.YtoflehlkacofjaaQcS7
namespace Go.Proofs.Ytoflehlkacofjaa
open Go.ChangeShapes Go.WideShapes Go.ChangeAt Go.RowKit
set_option linter.unusedVariables false
theorem SpAt.cell_some {w : World} {B : Nat} {s : Sp} (h : SpAt w B s) (k : Nat) (hk : k < 25) : ∃ v, w.cell? ⟨B, k, none⟩ = some v := by
  rw [h.at]
  exact ⟨_, Array.getElem?_eq_getElem (by rw [s.size]; exact hk)⟩
theorem SpAt.frozen {w : World} {B : Nat} {s : Sp} (h : SpAt w B s) (k : Nat) : w.frozen? ⟨B, k, none⟩ = false := by
  unfold SpAt at h
  simp [World.frozen?, h]
theorem TK.alloc {w wr : World} {g : Nat} {v : Value} {b : List UInt8} {a : Nat} {e : Int} {R B k j : Nat} (h : TK w wr g v b a e R B k j) (o : Obj) : TK w (wr.alloc o) g v b a e R B k j :=
  have hk : Keeps wr (wr.alloc o) := (Keeps.refl wr).alloc o
  have hg : wr.grownBy (wr.alloc o) (some g) := World.grownBy_alloc wr o _
  have hn : wr.grownBy (wr.alloc o) none := World.grownBy_alloc wr o _
  ⟨h.rd.keeps hk, h.bs.keeps hk, h.sp.kept hn (by simp), h.rz.kept hn (by simp), h.gr.trans hg⟩
theorem cells_one (s : Sp) : s.cells.all (·.oneCell') = true := by unfold Sp.cells; simp [Value.oneCell']
theorem hz66 : ((Try.prog.info? 27).bind (·.zero)).map Value.cells = some Sp.zero.cells := by kernel_rfl

theorem small_z (g : Nat) (v : Value) (b : List UInt8) (a : Nat) (e : Int) (z : Int) (most : Nat) (hz : z = (most : Int)) (w : World) (h : Rdr w g v a e) (hb : RdB w v b) (ha : a ≤ b.length) (hl : b.length ≤ 1000000) (hm : most < 2 ^ 64) :
    Calls Try.prog 42 #[.pointer (some ⟨g, 0, none⟩), .int .u64 z] w fun r w' => ∃ n a' : Nat, ∃ e' : Int, Form.small b a e most = (n, a', e') ∧ r = .returned (.int .u64 (n : Int)) ∧ Moved w w' g v a' e' := by
  subst hz; exact small_w g v b a e most w h hb ha hl hm
theorem setRow_moved {w W : World} {g R : Nat} {v : Value} {a : Nat} {e : Int} {cs : Array Value} (h : Rdr W g v a e) (hg : w.grownBy W (some g)) (hR : w.heap.size ≤ R) (hne : R ≠ g) : Moved w (W.setRow R cs) g v a e := by
  refine ⟨?_, hg.os, hg.tape, hg.output, by simpa [World.setRow] using hg.size, fun k hk hn => ?_⟩
  · unfold Rdr at *; rw [setRow_other _ _ _ _ (Ne.symm hne)]; exact h
  · rw [setRow_other _ _ _ _ (by omega)]; exact hg.block k hk hn
/-- What Take leaves. -/
def Took (w : World) (g : Nat) (v : Value) (b : List UInt8) (a : Nat) (e : Int) (r : Ending) (w' : World) : Prop :=
  ∃ e2, r = .returned (.agg (if (Sp.taken b a e).mayB then (Sp.taken b a e).cells else Sp.zero.cells)) ∧
    e2 = (if (Sp.taken b a e).mayB then (Form.rst b a e 25).2 else if (Form.rst b a e 25).2 = 0 then 5 else (Form.rst b a e 25).2) ∧ Moved w w' g v (Form.rst b a e 25).1 e2
theorem took_yes {w w' : World} {g : Nat} {v : Value} {b : List UInt8} {a : Nat} {e : Int} {r : Ending} (h : (Sp.taken b a e).mayB = true) (hr : r = .returned (.agg (Sp.taken b a e).cells)) (hm : Moved w w' g v (Form.rst b a e 25).1 (Form.rst b a e 25).2) : Took w g v b a e r w' := by
  refine ⟨_, ?_, rfl, ?_⟩
  · rw [if_pos h]; exact hr
  · rw [if_pos h]; exact hm
theorem took_no {w w' : World} {g : Nat} {v : Value} {b : List UInt8} {a : Nat} {e : Int} {r : Ending} (h : (Sp.taken b a e).mayB = false) (hr : r = .returned (.agg Sp.zero.cells)) (hm : Moved w w' g v (Form.rst b a e 25).1 (if (Form.rst b a e 25).2 = 0 then 5 else (Form.rst b a e 25).2)) : Took w g v b a e r w' := by
  have h' : ¬ (Sp.taken b a e).mayB = true := by rw [h]; simp
  refine ⟨_, ?_, rfl, ?_⟩
  · rw [if_neg h']; exact hr
  · rw [if_neg h']; exact hm

set_option maxRecDepth 100000 in
set_option maxHeartbeats 3200000 in
theorem take_w (g : Nat) (v : Value) (b : List UInt8) (a : Nat) (e : Int) (w : World) (h : Rdr w g v a e) (hb : RdB w v b) (ha : a ≤ b.length) (hl : b.length ≤ 1000000) (ho : Off v g) :
    Calls Try.prog 61 #[.pointer (some ⟨g, 0, none⟩)] w (Took w g v b a e) := by
  have hgl := h.lt
  have hoff : ∀ x, w.heap.size ≤ x → Off v x := fun x hx => hb.off hx
  have Hoff := Lib.hid hoff
  have Hle := Lib.hid (Form.rst_le b a e ha)
  have HR := Lib.hid (SpAt.new w Sp.zero)
  have H0 := Lib.hid (show Rdr (w.alloc (.cells Sp.zero.cells 27)) g v (Form.rst b a e 0).1 (Form.rst b a e 0).2 from h.keeps ((Keeps.refl w).alloc _))
  have Hb0 := Lib.hid (hb.keeps ((Keeps.refl w).alloc (.cells Sp.zero.cells 27)))
  have m0 : Form.mst 0 = 4294967295 := rfl
  have m1 : Form.mst 1 = 255 := rfl
  have S0 := Lib.hid (fun W h1 h2 => small_z g v b (Form.rst b a e 0).1 (Form.rst b a e 0).2 4294967295 4294967295 rfl W h1 h2 (Hle.out 0) hl (by decide))
  have S1 := Lib.hid (fun W h1 h2 => small_z g v b (Form.rst b a e 1).1 (Form.rst b a e 1).2 255 255 rfl W h1 h2 (Hle.out 1) hl (by decide))
  have R0 := Lib.hid (Form.rst_step b a e 0)
  have R1 := Lib.hid (Form.rst_step b a e 1)
  have V0 := Form.rv_le b a e 0
  have V1 := Form.rv_le b a e 1
  rw [m0] at R0 V0
  rw [m1] at R1 V1
  clear h hb m0 m1 hoff
  go_enter Try.func61, Try.ntmps61
  go_wp2_with (first
    | (refine wpList_alloc_zero rfl 27 rfl _ hz66 ?_)
    | (go_at_call 42; first
        | (with_reducible refine (S0.out _ H0.out Hb0.out).mono ?_
           rintro r w1 ⟨n, a', e', h1, rfl, hm⟩
           rw [R0.out] at h1
           cases h1
           have Hr1 := Lib.hid hm.1
           have Hg1 := Lib.hid hm.2
           have Hb1 := Lib.hid (Hb0.out.grown hm.2 ho)
           clear hm)
        | (with_reducible refine (S1.out _ Hr1.out Hb1.out).mono ?_
           rintro r w2 ⟨n, a', e', h1, rfl, hm⟩
           rw [R1.out] at h1
           cases h1
           have Hr2 := Lib.hid hm.1
           have Hg2 := Lib.hid hm.2
           have Hb2 := Lib.hid (Hb1.out.grown hm.2 ho)
           have HN2 := Lib.hid (SpAt.new w2 Sp.zero)
           clear hm))
    | (refine wpList_store_rowTo rfl 27 (.tmp 3) (.tmp 13) rfl rfl _ ((Sp.taken b a e).trunc 2).cells rfl rfl 27 Sp.zero.cells HN2.out (show _ = some 25 by kernel_rfl) rfl (cells_one _) ?_))
  have hR2 : w.heap.size < w2.heap.size := by have h1 := Hg1.out.size; have h2 := Hg2.out.size; simp at h1; omega
  have HT := Lib.hid (show TK w ((w2.alloc (.cells Sp.zero.cells 27)).setRow w2.heap.size ((Sp.taken b a e).trunc 2).cells) g v b a e w.heap.size w2.heap.size 2 2 from by
    have hk : Keeps w2 ((w2.alloc (.cells Sp.zero.cells 27)).setRow w2.heap.size ((Sp.taken b a e).trunc 2).cells) := fun k hk => by
      rw [setRow_other _ _ _ _ (by omega), Below.heap_alloc w2 _ k hk]
    have hrz : SpAt w2 w.heap.size Sp.zero := (HR.out.kept Hg1.out (by simp; omega)).kept Hg2.out (by simp; omega)
    refine ⟨Hr2.out.keeps hk, Hb2.out.keeps hk, setRow_heap _ _ _ _ _ _ HN2.out, ?_, ?_⟩
    · unfold SpAt at *; rw [hk w.heap.size hR2]; exact hrz
    · exact (((World.grownBy_alloc w (.cells Sp.zero.cells 27) (some g)).trans Hg1.out).trans Hg2.out).trans ⟨rfl, rfl, rfl, by simp [World.setRow], fun k hk' _ => hk k hk'⟩)
  have hsz3 : ((w2.alloc (.cells Sp.zero.cells 27)).setRow w2.heap.size ((Sp.taken b a e).trunc 2).cells).heap.size = w2.heap.size + 1 := by simp [World.setRow]
  have Hsz3 := Lib.hid hsz3
  clear hsz3 V0 V1
  have hP : ∃ W4, ((w2.alloc (.cells Sp.zero.cells 27)).setRow w2.heap.size ((Sp.taken b a e).trunc 2).cells).alloc (.cells #[.pointer (some ⟨w2.heap.size, 2, none⟩), .pointer (some ⟨w2.heap.size, 3, none⟩), .pointer (some ⟨w2.heap.size, 4, none⟩), .pointer (some ⟨w2.heap.size, 5, none⟩)] 105) = W4 := ⟨_, rfl⟩
  obtain ⟨W4, hW4⟩ := hP
  have HT4 := Lib.hid (HT.out.alloc (.cells #[.pointer (some ⟨w2.heap.size, 2, none⟩), .pointer (some ⟨w2.heap.size, 3, none⟩), .pointer (some ⟨w2.heap.size, 4, none⟩), .pointer (some ⟨w2.heap.size, 5, none⟩)] 105))
  have hP4 := heap_alloc_new ((w2.alloc (.cells Sp.zero.cells 27)).setRow w2.heap.size ((Sp.taken b a e).trunc 2).cells) (.cells #[.pointer (some ⟨w2.heap.size, 2, none⟩), .pointer (some ⟨w2.heap.size, 3, none⟩), .pointer (some ⟨w2.heap.size, 4, none⟩), .pointer (some ⟨w2.heap.size, 5, none⟩)] 105)
  rw [Hsz3.out] at hP4
  rw [hW4] at hP4 HT4 ⊢
  have HP4 := Lib.hid hP4
  clear hW4 hP4 HT HN2 Hr1 Hr2 Hg1 Hg2 Hb1 Hb2 Hsz3 HR H0 Hb0
  generalize w2.heap.size = B at *
  have hBg : B ≠ g := by omega
  have hRg : w.heap.size ≠ g := by omega
  have hRB : w.heap.size ≠ B := by omega
  have HoB := Lib.hid (Hoff.out B (by omega))
  go_loopw [20] (fun i wr => ∃ k : Nat, k ≤ 4 ∧ i = .int .i64 (k : Int) ∧ TK w wr g v b a e w.heap.size B (2 + k) (2 + k) ∧ wr.heap[B + 1]? = some (.cells #[.pointer (some ⟨B, 2, none⟩), .pointer (some ⟨B, 3, none⟩), .pointer (some ⟨B, 4, none⟩), .pointer (some ⟨B, 5, none⟩)] 105)) (fun i _ => 4 - (intOf i).toNat)
  case atStart => exact ⟨0, by decide, rfl, HT4.out, HP4.out⟩
  case round =>
    obtain ⟨k, hk, rfl, hT, hP⟩ := hrel
    have HT := Lib.hid hT
    have HP := Lib.hid hP
    clear hT hP HT4 HP4
    by_cases hlt : k < 4
    · have hck : wr.cell? ⟨B + 1, k, none⟩ = some (.pointer (some ⟨B, 2 + k, none⟩)) := by
        rw [cell_of_row _ _ _ _ _ _ HP.out]
        have h : k = 0 ∨ k = 1 ∨ k = 2 ∨ k = 3 := by omega
        rcases h with rfl | rfl | rfl | rfl <;> rfl
      have hmk : Form.mst (2 + k) = 9223372036854775807 := by
        have h : k = 0 ∨ k = 1 ∨ k = 2 ∨ k = 3 := by omega
        rcases h with rfl | rfl | rfl | rfl <;> rfl
      have hcv : (Sp.taken b a e).cells.getD (2 + k) undef = .int .i64 (Form.rv b a e (2 + k) : Nat) := by
        have h : k = 0 ∨ k = 1 ∨ k = 2 ∨ k = 3 := by omega
        rcases h with rfl | rfl | rfl | rfl <;> rfl
      have hvb := Form.rv_le b a e (2 + k)
      have hst := Form.rst_step b a e (2 + k)
      rw [hmk] at hvb hst
      have SK := Lib.hid (small_z g v b (Form.rst b a e (2 + k)).1 (Form.rst b a e (2 + k)).2 9223372036854775807 9223372036854775807 rfl wr HT.out.rd HT.out.bs (Hle.out _) hl (by decide))
      have Hst := Lib.hid hst
      have Hcv := Lib.hid hcv
      clear hmk hst hcv
      generalize hn : Form.rv b a e (2 + k) = n at *
      have hwn : IntKind.i64.wrap (n : Int) = (n : Int) := IntWalk.i64_in _ (by omega)
      clear hn
      go_wp2_with (
        go_at_call 42
        with_reducible refine (SK.out).mono ?_
        rintro r w5 ⟨n', a', e', h1, rfl, hm⟩
        rw [Hst.out] at h1
        cases h1
        have HT5 := Lib.hid (HT.out.read hm ho hRg hBg)
        have HP5 := Lib.hid ((hm.2.block (B + 1) (Array.getElem?_eq_some_iff.1 HP.out).1 (by simp; omega)).trans HP.out)
        have hcc := HT5.out.sp.cell_some (2 + k) (by omega)
        have hff := HT5.out.sp.frozen (2 + k)
        obtain ⟨old, hcc⟩ := hcc
        clear hm)
      go_roundw
      case rel => exact ⟨k + 1, by omega, by go_num, HT5.out.lay (by omega) _ Hcv.out HoB.out hRB hBg (by omega), by rw [(Lib.grownBy_setCell w5 B _ _).block (B + 1) (Array.getElem?_eq_some_iff.1 HP5.out).1 (by simp)]; exact HP5.out⟩
      case measure => simp [intOf]; omega
    · have hk4 : k = 4 := by omega
      subst hk4
      rw [show ((4 : Nat) : Int) = 4 from rfl]
      go_wp2
      go_loopw [30] (fun i wr => ∃ k : Nat, k ≤ 16 ∧ i = .int .i64 (k : Int) ∧ TK w wr g v b a e w.heap.size B (6 + k) (6 + k)) (fun i _ => 16 - (intOf i).toNat)
      case atStart => exact ⟨0, by decide, rfl, HT.out⟩
      case round =>
        obtain ⟨k, hk, rfl, hT⟩ := hrel
        have HT := Lib.hid hT
        clear hT HP
        by_cases hlt : k < 16
        · have hmk : Form.mst (6 + k) = 18446744073709551615 := by
            have h : k = 0 ∨ k = 1 ∨ k = 2 ∨ k = 3 ∨ k = 4 ∨ k = 5 ∨ k = 6 ∨ k = 7 ∨ k = 8 ∨ k = 9 ∨ k = 10 ∨ k = 11 ∨ k = 12 ∨ k = 13 ∨ k = 14 ∨ k = 15 := by omega
            rcases h with rfl | rfl | rfl | rfl | rfl | rfl | rfl | rfl | rfl | rfl | rfl | rfl | rfl | rfl | rfl | rfl <;> rfl
          have hcv : (Sp.taken b a e).cells.getD (6 + k) undef = .int .i64 (Form.unfold_ (Form.rv b a e (6 + k))) := by
            have h : k = 0 ∨ k = 1 ∨ k = 2 ∨ k = 3 ∨ k = 4 ∨ k = 5 ∨ k = 6 ∨ k = 7 ∨ k = 8 ∨ k = 9 ∨ k = 10 ∨ k = 11 ∨ k = 12 ∨ k = 13 ∨ k = 14 ∨ k = 15 := by omega
            rcases h with rfl | rfl | rfl | rfl | rfl | rfl | rfl | rfl | rfl | rfl | rfl | rfl | rfl | rfl | rfl | rfl <;> rfl
          have hst := Form.rst_step b a e (6 + k)
          rw [hmk] at hst
          have SK := Lib.hid (rint_w g v b (Form.rst b a e (6 + k)).1 (Form.rst b a e (6 + k)).2 wr HT.out.rd HT.out.bs (Hle.out _) hl)
          have Hst := Lib.hid hst
          have Hcv := Lib.hid hcv
          clear hmk hst hcv
          generalize hn : Form.rv b a e (6 + k) = n at *
          clear hn
          go_wp2_with (
            go_at_call 44
            with_reducible refine (SK.out).mono ?_
            rintro r w5 ⟨n', a', e', h1, rfl, hm⟩
            rw [Hst.out] at h1
            cases h1
            have HT5 := Lib.hid (HT.out.read hm ho hRg hBg)
            have hcc := HT5.out.sp.cell_some (6 + k) (by omega)
            have hff := HT5.out.sp.frozen (6 + k)
            obtain ⟨old, hcc⟩ := hcc
            clear hm)
          go_roundw
          case rel => exact ⟨k + 1, by omega, by go_num, HT5.out.lay (by omega) _ Hcv.out HoB.out hRB hBg (by omega)⟩
          case measure => simp [intOf]; omega
        · have hk16 : k = 16 := by omega
          subst hk16
          have H22 := Lib.hid (show TK w wr g v b a e w.heap.size B 22 22 from HT.out)
          have Q22 := Lib.hid (Form.rst_step b a e 22)
          have Q23 := Lib.hid (Form.rst_step b a e 23)
          have Q24 := Lib.hid (Form.rst_step b a e 24)
          have V22 := Form.rv_le b a e 22
          have V23 := Form.rv_le b a e 23
          have V24 := Form.rv_le b a e 24
          rw [show Form.mst 22 = 9223372036854775807 from rfl] at V22 Q22
          rw [show Form.mst 23 = 4294967295 from rfl] at V23 Q23
          rw [show Form.mst 24 = 9223372036854775807 from rfl] at V24 Q24
          have C22 := Lib.hid (show (Sp.taken b a e).cells.getD 22 undef = .int .i64 (Form.rv b a e 22 : Nat) from rfl)
          have C23 := Lib.hid (show (Sp.taken b a e).cells.getD 23 undef = .int .u32 (Form.rv b a e 23 : Nat) from rfl)
          have C24 := Lib.hid (show (Sp.taken b a e).cells.getD 24 undef = .int .i64 (Form.rv b a e 24 : Nat) from rfl)
          have l22 := Hle.out 22
          have l23 := Hle.out 23
          have l24 := Hle.out 24
          have B22 := Lib.hid (And.intro l22 (And.intro l23 l24))
          clear HT l22 l23 l24
          go_wp2_with (first
            | (go_at_call 42; first
                | (with_reducible refine (small_z g v b (Form.rst b a e 22).1 (Form.rst b a e 22).2 9223372036854775807 9223372036854775807 rfl _ H22.out.rd H22.out.bs B22.out.1 hl (by decide)).mono ?_
                   rintro r w5 ⟨n', a', e', h1, rfl, hm⟩
                   rw [Q22.out] at h1
                   cases h1
                   have T22 := Lib.hid (H22.out.read hm ho hRg hBg)
                   obtain ⟨old22, hc22⟩ := T22.out.sp.cell_some 22 (by omega)
                   have hf22 := T22.out.sp.frozen 22
                   have H23 := Lib.hid (T22.out.lay (by omega) _ C22.out HoB.out hRB hBg (by omega))
                   clear hm)
                | (with_reducible refine (small_z g v b (Form.rst b a e 23).1 (Form.rst b a e 23).2 4294967295 4294967295 rfl _ H23.out.rd H23.out.bs B22.out.2.1 hl (by decide)).mono ?_
                   rintro r w6 ⟨n', a', e', h1, rfl, hm⟩
                   rw [Q23.out] at h1
                   cases h1
                   have T23 := Lib.hid (H23.out.read hm ho hRg hBg)
                   obtain ⟨old23, hc23⟩ := T23.out.sp.cell_some 23 (by omega)
                   have hf23 := T23.out.sp.frozen 23
                   have H24 := Lib.hid (T23.out.lay (by omega) _ C23.out HoB.out hRB hBg (by omega))
                   clear hm)
                | (with_reducible refine (small_z g v b (Form.rst b a e 24).1 (Form.rst b a e 24).2 9223372036854775807 9223372036854775807 rfl _ H24.out.rd H24.out.bs B22.out.2.2 hl (by decide)).mono ?_
                   rintro r w7 ⟨n', a', e', h1, rfl, hm⟩
                   rw [Q24.out] at h1
                   cases h1
                   have T24 := Lib.hid (H24.out.read hm ho hRg hBg)
                   obtain ⟨old24, hc24⟩ := T24.out.sp.cell_some 24 (by omega)
                   have hf24 := T24.out.sp.frozen 24
                   have H25 := Lib.hid (T24.out.lay (by omega) _ C24.out HoB.out hRB hBg (by omega))
                   have HS25 := Lib.hid (show SpAt _ B (Sp.taken b a e) from H25.out.sp)
                   clear hm))
            | (refine wpList_load_row rfl 27 (.tmp 3) rfl _ rfl _ _ _ _ HS25.out Try.underlying27 rfl (show _ = some 25 by kernel_rfl) ?_)
            | (go_at_call 54; fail))
          clear hc22 hf22 hc23 hf23 hc24 hf24 V22 V23 V24
          have HM := Lib.hid (fun W => may_w (Sp.taken b a e) W (Sp.taken_ok b a e))
          have Hcs := Lib.hid (show (Sp.taken b a e).cells = (Sp.taken b a e).cells from rfl)
          obtain ⟨mb, hmb⟩ : ∃ mb, (Sp.taken b a e).mayB = mb := ⟨_, rfl⟩
          have Hmb := Lib.hid hmb
          rw [hmb] at HM
          clear hmb
          cases mb with
          | true =>
            go_wp2_with (first
              | (
                go_at_call 54
                refine (HM.out _).mono ?_
                rintro r w8 ⟨rfl, hB⟩
                have HS8 := Lib.hid (HS25.out.below hB)
                have HZ8 := Lib.hid (H25.out.rz.below hB)
                have HR8 := Lib.hid (H25.out.rd.keeps hB.block)
                have HG8 := Lib.hid (H25.out.gr.trans (below_grown' hB))
                clear hB)
              | (refine wpList_load_row rfl 27 (.tmp 3) rfl _ rfl _ _ _ _ HS8.out Try.underlying27 rfl (show _ = some 25 by kernel_rfl) ?_)
              | (refine wpList_store_rowTo rfl 27 (.tmp 2) (.tmp 57) rfl rfl _ (Sp.taken b a e).cells rfl rfl 27 Sp.zero.cells HZ8.out (show _ = some 25 by kernel_rfl) rfl (cells_one _) ?_))
            have hres := setRow_heap w8 w.heap.size _ (Sp.taken b a e).cells _ _ HZ8.out
            refine bodyPost_ret (v := .agg (Sp.taken b a e).cells) (results_cell_row rfl _ _ w.heap.size 27 _ _ _ rfl hres Try.underlying27 rfl (show _ = some 25 by kernel_rfl)) rfl ?_
            exact took_yes Hmb.out rfl (setRow_moved HR8.out HG8.out (Nat.le_refl _) hRg)
          | false =>
            go_wp2_with (first
              | (
                go_at_call 54
                refine (HM.out _).mono ?_
                rintro r w8 ⟨rfl, hB⟩
                have HZ8 := Lib.hid (H25.out.rz.below hB)
                have HR8 := Lib.hid (H25.out.rd.keeps hB.block)
                have HG8 := Lib.hid (H25.out.gr.trans (below_grown' hB))
                clear hB)
              | (
                go_at_call 75
                refine (fail_w _ _ _ _ (5 : Int) _ HR8.out).mono ?_
                rintro r w9 ⟨rfl, hm⟩
                have HR9 := Lib.hid hm.1
                have HG9 := Lib.hid (HG8.out.trans hm.2)
                have HZ9 := Lib.hid (HZ8.out.kept hm.2 (by simpa using hRg))
                clear hm)
              | (refine wpList_store_rowTo rfl 27 (.tmp 2) (.tmp 56) rfl rfl _ Sp.zero.cells rfl rfl 27 Sp.zero.cells HZ9.out (show _ = some 25 by kernel_rfl) rfl (cells_one _) ?_))
            have hres := setRow_heap w9 w.heap.size _ Sp.zero.cells _ _ HZ9.out
            refine bodyPost_ret (v := .agg Sp.zero.cells) (results_cell_row rfl _ _ w.heap.size 27 _ _ _ rfl hres Try.underlying27 rfl (show _ = some 25 by kernel_rfl)) rfl ?_
            exact took_no Hmb.out rfl (setRow_moved HR9.out HG9.out (Nat.le_refl _) hRg)
end Go.Proofs.Ytoflehlkacofjaa
