/- No node: none is made, and the law, the walks. -/
import Derived.Test.YteellfgiejnigaaQnG22
namespace Go.Proofs.Yteellfgiejnigaa
open Go.ChangeShapes Go.WideShapes Go.ChangeAt Go.RowKit
set_option linter.unusedVariables false
section
variable {w w' : World}
set_option maxRecDepth 100000 in
set_option maxHeartbeats 2000000 in
theorem new_nil_w (n i t who : Int) (term d : Int) (w : World) : Calls Try.prog 55 #[.agg #[.int .i64 n, .int .i64 i, .int .i64 t], .int .u64 term, .int .i64 who, .pointer none, .int .u64 d] w fun e w' => e = .returned (.tuple #[.pointer none, .int .i64 2]) ∧ Below w.heap.size w w' := by
  have HB := Lib.hid ((Below.refl w.heap.size w).alloc (Nat.le_refl _) (.cells #[.int .i64 n, .int .i64 i, .int .i64 t] 85))
  go_enter Try.func55, Try.ntmps55
  go_wp2
  all_goals (go_ret2; exact ⟨rfl, HB.out⟩)
structure W11 (w0 w : World) (cc nc : Array Value) : Prop where
  c : w.heap[w0.heap.size]? = some (.cells cc 85)
  n : w.heap[w0.heap.size + 1]? = some (.cells nc 31)
  bel : Below w0.heap.size w0 w
theorem W11.new (w : World) (cc nc : Array Value) : W11 w ((w.alloc (.cells cc 85)).alloc (.cells nc 31)) cc nc := by
  have h1 : (w.alloc (.cells cc 85)).heap[w.heap.size]? = some (.cells cc 85) := heap_alloc_new w _
  have h2 := heap_alloc_new (w.alloc (.cells cc 85)) (.cells nc 31)
  have hk : Below (w.alloc (.cells cc 85)).heap.size (w.alloc (.cells cc 85)) ((w.alloc (.cells cc 85)).alloc (.cells nc 31)) := (Below.refl _ _).alloc (Nat.le_refl _) _
  rw [heap_alloc_size] at h2
  exact ⟨by rw [hk.block _ (Array.getElem?_eq_some_iff.1 h1).1]; exact h1, h2, ((Below.refl _ _).alloc (Nat.le_refl _) _).alloc (by rw [heap_alloc_size]; omega) _⟩
theorem W11.on {w0 w w' : World} {cc nc : Array Value} (h : W11 w0 w cc nc) (hB : Below w.heap.size w w') : W11 w0 w' cc nc :=
  ⟨by rw [hB.block _ (Array.getElem?_eq_some_iff.1 h.c).1]; exact h.c, by rw [hB.block _ (Array.getElem?_eq_some_iff.1 h.n).1]; exact h.n, h.bel.trans (hB.mono h.bel.size)⟩
/-- The law's world at its loop: no node at either place. -/
structure W12 (w0 w : World) (zb sb : Nat) (nc : Array Value) : Prop where
  n : w.heap[w0.heap.size + 1]? = some (.cells nc 31)
  z : NoR w (.pointer (some ⟨zb, 0, none⟩))
  s0 : w.cell? ⟨sb, 0, none⟩ = some (.pointer none)
  s1 : w.cell? ⟨sb, 1, none⟩ = some (.pointer (some ⟨zb, 0, none⟩))
  bel : Below w0.heap.size w0 w
theorem W12.on {w0 w w' : World} {zb sb : Nat} {nc : Array Value} (h : W12 w0 w zb sb nc) (hB : Below w.heap.size w w') : W12 w0 w' zb sb nc :=
  ⟨by rw [hB.block _ (Array.getElem?_eq_some_iff.1 h.n).1]; exact h.n, h.z.below hB, (show Keeps w w' from hB.block).cell h.s0, (show Keeps w w' from hB.block).cell h.s1, h.bel.trans (hB.mono h.bel.size)⟩
theorem W12.new {w0 w : World} {cc nc : Array Value} (h : W11 w0 w cc nc) (zc : Array Value) (hz : zc[5]? = some (.pointer none)) :
    W12 w0 ((w.alloc (.cells zc 95)).alloc (.cells #[.pointer none, .pointer (some ⟨w.heap.size, 0, none⟩)] 86)) w.heap.size (w.heap.size + 1) nc := by
  have hB : Below w.heap.size w ((w.alloc (.cells zc 95)).alloc (.cells #[.pointer none, .pointer (some ⟨w.heap.size, 0, none⟩)] 86)) := ((Below.refl _ _).alloc (Nat.le_refl _) _).alloc (by rw [heap_alloc_size]; omega) _
  have h1 : (w.alloc (.cells zc 95)).heap[w.heap.size]? = some (.cells zc 95) := heap_alloc_new w _
  have h2 := heap_alloc_new (w.alloc (.cells zc 95)) (.cells #[.pointer none, .pointer (some ⟨w.heap.size, 0, none⟩)] 86)
  have hk : Below (w.alloc (.cells zc 95)).heap.size (w.alloc (.cells zc 95)) ((w.alloc (.cells zc 95)).alloc (.cells #[.pointer none, .pointer (some ⟨w.heap.size, 0, none⟩)] 86)) := (Below.refl _ _).alloc (Nat.le_refl _) _
  rw [heap_alloc_size] at h2
  have h11 := h.on hB
  exact ⟨h11.n, .inr ⟨_, zc, rfl, by rw [hk.block _ (Array.getElem?_eq_some_iff.1 h1).1]; exact h1, hz⟩, by rw [cell_of_row _ _ _ _ _ _ h2]; rfl, by rw [cell_of_row _ _ _ _ _ _ h2]; rfl, h11.bel⟩
/-- Its world in a round: this one is no node, and this row is an answer that wants nothing. -/
structure W13 (w0 w : World) (zb sb : Nat) (nc : Array Value) (v : Value) (ob : Nat) : Prop where
  k : W12 w0 w zb sb nc
  z : NoR w v
  o : w.heap[ob]? = some (.cells out0C 100)
theorem W13.on {w0 w w' : World} {zb sb ob : Nat} {nc : Array Value} {v : Value} (h : W13 w0 w zb sb nc v ob) (hB : Below w.heap.size w w') : W13 w0 w' zb sb nc v ob :=
  ⟨h.k.on hB, h.z.below hB, by rw [hB.block _ (Array.getElem?_eq_some_iff.1 h.o).1]; exact h.o⟩
theorem W13.new {w0 w : World} {zb sb : Nat} {nc : Array Value} {v : Value} (h : W12 w0 w zb sb nc) (hz : NoR w v) (zr : Array Value) :
    W13 w0 ((w.alloc (.cells zr 100)).setRow w.heap.size out0C) zb sb nc v w.heap.size := by
  have hB : Below w.heap.size w ((w.alloc (.cells zr 100)).setRow w.heap.size out0C) := Below_setRow ((Below.refl _ _).alloc (Nat.le_refl _) _) (Nat.le_refl _) _
  exact ⟨h.on hB, hz.below hB, setRow_heap _ _ _ _ _ _ (heap_alloc_new w _)⟩
theorem W13.cells {w0 w : World} {zb sb ob : Nat} {nc : Array Value} {v : Value} (h : W13 w0 w zb sb nc v ob) : w.cell? ⟨ob, 0, none⟩ = some (.bool false) ∧ w.cell? ⟨ob, 1, none⟩ = some (.bool false) ∧ w.cell? ⟨ob, 2, none⟩ = some (.int .u8 0) ∧ w.cell? ⟨ob, 3, none⟩ = some (.int .u64 0) ∧ w.cell? ⟨ob, 4, none⟩ = some (.int .u64 0) ∧ w.cell? ⟨ob, 5, none⟩ = some (.int .u64 0) ∧ w.cell? ⟨ob, 6, none⟩ = some (.int .u64 0) ∧ w.cell? ⟨ob, 7, none⟩ = some (.int .u64 0) ∧ w.cell? ⟨ob, 8, none⟩ = some (.bool false) ∧ w.cell? ⟨ob, 9, none⟩ = some (.slice none 0 0) ∧ w.cell? ⟨ob, 10, none⟩ = some (.slice none 0 0) ∧ w.cell? ⟨ob, 11, none⟩ = some (.bool false) ∧ w.cell? ⟨ob, 12, none⟩ = some (.int .u64 0) ∧ w.cell? ⟨ob, 13, none⟩ = some (.slice none 0 0) ∧ w.cell? ⟨ob, 14, none⟩ = some (.slice none 0 0) ∧ w.cell? ⟨ob, 15, none⟩ = some (.slice none 0 0) := by
  refine ⟨?_, ?_, ?_, ?_, ?_, ?_, ?_, ?_, ?_, ?_, ?_, ?_, ?_, ?_, ?_, ?_⟩ <;> (rw [cell_of_row _ _ _ _ _ _ h.o]; rfl)
theorem W13.notes {w0 w : World} {zb sb ob : Nat} {a0 a1 a2 a3 a4 a5 a6 a7 a8 v : Value} (h : W13 w0 w zb sb #[a0, a1, a2, a3, a4, a5, a6, a7, a8] v ob) : w.cell? ⟨w0.heap.size + 1, 0, none⟩ = some a0 ∧ w.cell? ⟨w0.heap.size + 1, 1, none⟩ = some a1 ∧ w.cell? ⟨w0.heap.size + 1, 2, none⟩ = some a2 ∧ w.cell? ⟨w0.heap.size + 1, 3, none⟩ = some a3 ∧ w.cell? ⟨w0.heap.size + 1, 4, none⟩ = some a4 ∧ w.cell? ⟨w0.heap.size + 1, 5, none⟩ = some a5 ∧ w.cell? ⟨w0.heap.size + 1, 6, none⟩ = some a6 ∧ w.cell? ⟨w0.heap.size + 1, 7, none⟩ = some a7 ∧ w.cell? ⟨w0.heap.size + 1, 8, none⟩ = some a8 := by
  refine ⟨?_, ?_, ?_, ?_, ?_, ?_, ?_, ?_, ?_⟩ <;> (rw [cell_of_row _ _ _ _ _ _ h.k.n]; rfl)
/-- A whole load behind a guard. -/
theorem wpList_load_rowG {ops : Array Oper} {rest : List Oper} {o : Oper} {a : Act} {w : World} {Q : Exit → Act → World → Prop} {B : Nat} {cs : Array Value} (ty : TypeId) {d : TypeDesc} (hw : Region.wanted o (yielded ops a.tmps) = true) (x : Operand) (ho : o.op = .load ty x)
    (hx : a.eval x = .pointer (some ⟨B, 0, none⟩)) (h : w.heap[B]? = some (.cells cs ty)) (hu : Try.prog.underlying ty = some d) (hd : (match d with | .struct _ | .array _ _ => true | _ => false) = true) (hi : (Try.prog.info? ty).map (·.size) = some cs.size) (k : wpList Try.prog ops Q rest (a.put o.dst (.agg cs)) w) : wpList Try.prog ops Q (o :: rest) a w := by
  unfold wpList
  rw [if_pos hw]
  exact .inl (wp_load_row ty x ho B hx ty cs (0, 0) d h hu (by cases d <;> first | rfl | exact hd | cases hd) hi k)
set_option maxRecDepth 100000 in
set_option maxHeartbeats 4000000 in
theorem rnone_law_w (n i t who : Int) (x : Nt) (lv dv : Value) (S : Foot) (w : World) (h : NtA w S lv dv x) (hl : ∀ e ∈ x.list, e.2.length ≤ 140737488351232) (hd : x.data.length ≤ 140737488351232) :
    Calls Try.prog 12 #[.agg #[.int .i64 n, .int .i64 i, .int .i64 t], .int .i64 who, ntv x lv dv] w fun e w' => e = .returned (.bool true) ∧ Below w.heap.size w w' := by
  have Hbig := Lib.hid (fun W (hk : Keeps w W) => big_w x lv dv S W (NtA.keeps h hk) hl hd)
  obtain ⟨k1, t1, r1, i1, a1, c1, y1, L1, D1⟩ := x
  obtain ⟨⟨pl1, cl1, rfl⟩, ⟨pd1, cd1, rfl⟩⟩ := h.forms
  unfold ntv at Hbig ⊢
  dsimp only at Hbig ⊢
  clear h hl hd
  have HC := Lib.hid (W11.new w #[.int .i64 n, .int .i64 i, .int .i64 t] #[.int .u8 (k1 : Int), .int .u64 (t1 : Int), .int .u64 (r1 : Int), .int .u64 (i1 : Int), .int .u64 (a1 : Int), .int .u64 (c1 : Int), .bool y1, .slice pl1 L1.length cl1, .slice pd1 D1.length cd1])
  go_enter Try.func12, Try.ntmps12
  go_wp2_with (first
    | (refine wpList_load_row rfl 31 (.tmp 5) rfl _ rfl 31 _ (0, 0) _ HC.out.n Try.underlying31 rfl (show _ = some 9 by kernel_rfl) ?_)
    | (refine wpList_load_row rfl 85 (.tmp 3) rfl _ rfl 85 _ (0, 0) _ HC.out.c Try.underlying85 rfl (show _ = some 3 by kernel_rfl) ?_)
    | (go_at_call 54; refine (Hbig.out _ HC.out.bel.block).mono ?_; rintro r w1 ⟨⟨b, rfl⟩, hB⟩; have HC := Lib.hid (HC.out.on hB); clear hB; cases b)
    | (go_at_call 50; refine (known_w _).mono ?_; rintro r w1 ⟨rfl, hB⟩; have HC := Lib.hid (HC.out.on hB); clear hB)
    | (go_at_call 55; refine (new_nil_w _ _ _ _ 0 0 _).mono ?_; rintro r w1 ⟨rfl, hB⟩; have HC := Lib.hid (HC.out.on hB); clear hB))
  rotate_left
  · go_ret
    exact ⟨rfl, HC.out.bel⟩
  · have HK := Lib.hid (W12.new HC.out (#[.int .i64 0, .int .i64 0, .int .i64 0, .int .u64 0, .int .i64 0, .pointer none, .int .u64 0, .int .u8 0, .int .i64 0, .int .i64 0, .int .i64 0, .int .i64 0, .int .u64 0, .bool false, .bool false, .bool false, .bool false, .bool false, .bool false, .bool false, .int .u64 0, .int .u64 0, .int .u64 0, .int .u64 0, .int .u64 0, .int .u64 0, .int .u64 0, .int .u64 0, .int .u64 0, .int .u64 0, .int .u64 0, .int .u64 0, .int .u64 0, .int .u64 0]) rfl)
    obtain ⟨zb, hzb⟩ : ∃ zb, w1.heap.size = zb := ⟨_, rfl⟩
    rw [hzb] at HK ⊢
    clear hzb
    go_loopw [12] (fun c wr => ∃ k : Nat, k ≤ 2 ∧ c = .int .i64 (k : Int) ∧ Hid (W12 w wr zb (zb + 1) #[.int .u8 (k1 : Int), .int .u64 (t1 : Int), .int .u64 (r1 : Int), .int .u64 (i1 : Int), .int .u64 (a1 : Int), .int .u64 (c1 : Int), .bool y1, .slice pl1 L1.length cl1, .slice pd1 D1.length cd1])) (fun c _ => 2 - (intOf c).toNat)
    case atStart => exact ⟨0, by decide, rfl, HK⟩
    clear HK
    case round =>
    obtain ⟨k, hk, rfl, HK⟩ := hrel
    match k, hk with
    | 0, _ =>
      have qn : wr.cell? ⟨w.heap.size + 1, 8, none⟩ = some (.slice pd1 D1.length cd1) := by rw [cell_of_row _ _ _ _ _ _ HK.out.n]; rfl
      have qs := HK.out.s0
      have HP := Lib.hid (propose_no_w (.pointer none) pd1 D1.length cd1 wr (.inl rfl))
      go_wp2_with (first
        | (go_at_call 56; refine (HP.out).mono ?_; rintro r w3 ⟨rfl, hB⟩; have HK3 := Lib.hid (HK.out.on hB); clear hB; have HZ := Lib.hid (heap_alloc_new w3 (.cells #[.bool false, .bool false, .int .u8 0, .int .u64 0, .int .u64 0, .int .u64 0, .int .u64 0, .int .u64 0, .bool false, .slice none 0 0, .slice none 0 0, .bool false, .int .u64 0, .slice none 0 0, .slice none 0 0, .slice none 0 0] 100)))
        | (refine wpList_store_rowTo rfl 100 (.tmp 15) (.tmp 42) rfl rfl _ out0C rfl rfl 100 _ HZ.out (show _ = some 16 by kernel_rfl) rfl (by simp [out0C, Value.oneCell']) ?_; have HW := Lib.hid (W13.new (v := .pointer none) HK3.out (.inl rfl) #[.bool false, .bool false, .int .u8 0, .int .u64 0, .int .u64 0, .int .u64 0, .int .u64 0, .int .u64 0, .bool false, .slice none 0 0, .slice none 0 0, .bool false, .int .u64 0, .slice none 0 0, .slice none 0 0, .slice none 0 0]); clear HZ; generalize (w3.alloc (.cells #[.bool false, .bool false, .int .u8 0, .int .u64 0, .int .u64 0, .int .u64 0, .int .u64 0, .int .u64 0, .bool false, .slice none 0 0, .slice none 0 0, .bool false, .int .u64 0, .slice none 0 0, .slice none 0 0, .slice none 0 0] 100)).setRow w3.heap.size out0C = w4 at *; have ho := HW.out.cells; obtain ⟨o0, o1, o2, o3, o4, o5, o6, o7, o8, o9, o10, o11, o12, o13, o14, o15⟩ := ho)
        | (refine wpList_load_rowG 100 rfl (.tmp 15) rfl rfl HW.out.o Try.underlying100 rfl (show _ = some 16 by kernel_rfl) ?_)
        | (refine wpList_load_rowG 31 rfl (.tmp 5) rfl rfl HW.out.k.n Try.underlying31 rfl (show _ = some 9 by kernel_rfl) ?_)
        | (go_at_call 57; refine (sameout_w _).mono ?_; rintro r w5 ⟨rfl, hB⟩; (try clear o0 o1 o2 o3 o4 o5 o6 o7 o8 o9 o10 o11 o12 o13 o14 o15); have HW := Lib.hid (HW.out.on hB); clear hB; have hn := HW.out.notes; obtain ⟨n0, n1, n2, n3, n4, n5, n6, n7, n8⟩ := hn)
        | (go_at_call 58; refine (tick_no_w _ 1 _ HW.out.z).mono ?_; rintro r w5 ⟨rfl, hB⟩; (try clear o0 o1 o2 o3 o4 o5 o6 o7 o8 o9 o10 o11 o12 o13 o14 o15; try clear n0 n1 n2 n3 n4 n5 n6 n7 n8); have HW := Lib.hid (HW.out.on hB); clear hB)
        | (go_at_call 59; refine (hear_no_w _ 1 1 _ _ _ _ _ _ _ _ _ _ _ _ _ _ HW.out.z).mono ?_; rintro r w5 ⟨rfl, hB⟩; (try clear o0 o1 o2 o3 o4 o5 o6 o7 o8 o9 o10 o11 o12 o13 o14 o15; try clear n0 n1 n2 n3 n4 n5 n6 n7 n8); have HW := Lib.hid (HW.out.on hB); clear hB)
        | (go_at_call 60; refine (ndpack_no_w _ 1 _ HW.out.z).mono ?_; rintro r w5 ⟨rfl, hB⟩; (try clear o0 o1 o2 o3 o4 o5 o6 o7 o8 o9 o10 o11 o12 o13 o14 o15; try clear n0 n1 n2 n3 n4 n5 n6 n7 n8); have HW := Lib.hid (HW.out.on hB); clear hB)
        | (go_at_call 61; refine (role_no_w _ _ HW.out.z).mono ?_; rintro r w5 ⟨rfl, hB⟩; (try clear o0 o1 o2 o3 o4 o5 o6 o7 o8 o9 o10 o11 o12 o13 o14 o15; try clear n0 n1 n2 n3 n4 n5 n6 n7 n8); have HW := Lib.hid (HW.out.on hB); clear hB)
        | (go_at_call 62; refine (term_no_w _ _ HW.out.z).mono ?_; rintro r w5 ⟨rfl, hB⟩; (try clear o0 o1 o2 o3 o4 o5 o6 o7 o8 o9 o10 o11 o12 o13 o14 o15; try clear n0 n1 n2 n3 n4 n5 n6 n7 n8); have HW := Lib.hid (HW.out.on hB); clear hB)
        | (go_at_call 63; refine (for_no_w _ _ HW.out.z).mono ?_; rintro r w5 ⟨rfl, hB⟩; (try clear o0 o1 o2 o3 o4 o5 o6 o7 o8 o9 o10 o11 o12 o13 o14 o15; try clear n0 n1 n2 n3 n4 n5 n6 n7 n8); have HW := Lib.hid (HW.out.on hB); clear hB)
        | (go_at_call 64; refine (leader_no_w _ _ HW.out.z).mono ?_; rintro r w5 ⟨rfl, hB⟩; (try clear o0 o1 o2 o3 o4 o5 o6 o7 o8 o9 o10 o11 o12 o13 o14 o15; try clear n0 n1 n2 n3 n4 n5 n6 n7 n8); have HW := Lib.hid (HW.out.on hB); clear hB)
        | (go_at_call 65; refine (commit_no_w _ _ HW.out.z).mono ?_; rintro r w5 ⟨rfl, hB⟩; (try clear o0 o1 o2 o3 o4 o5 o6 o7 o8 o9 o10 o11 o12 o13 o14 o15; try clear n0 n1 n2 n3 n4 n5 n6 n7 n8); have HW := Lib.hid (HW.out.on hB); clear hB)
        | (go_at_call 66; refine (track_no_w _ _ HW.out.z).mono ?_; rintro r w5 ⟨rfl, hB⟩; (try clear o0 o1 o2 o3 o4 o5 o6 o7 o8 o9 o10 o11 o12 o13 o14 o15; try clear n0 n1 n2 n3 n4 n5 n6 n7 n8); have HW := Lib.hid (HW.out.on hB); clear hB)
        | (go_at_call 67; refine (rcopy_no_w _ _ HW.out.z).mono ?_; rintro r w5 ⟨rfl, hB⟩; (try clear o0 o1 o2 o3 o4 o5 o6 o7 o8 o9 o10 o11 o12 o13 o14 o15; try clear n0 n1 n2 n3 n4 n5 n6 n7 n8); have HW := Lib.hid (HW.out.on hB); clear hB))
      go_roundw
      case rel => exact ⟨0 + 1, by omega, rfl, Lib.hid HW.out.k⟩
      case measure => simp [intOf]
    | 1, _ =>
      have qn : wr.cell? ⟨w.heap.size + 1, 8, none⟩ = some (.slice pd1 D1.length cd1) := by rw [cell_of_row _ _ _ _ _ _ HK.out.n]; rfl
      have qs := HK.out.s1
      have HP := Lib.hid (propose_no_w (.pointer (some ⟨zb, 0, none⟩)) pd1 D1.length cd1 wr (HK.out.z))
      go_wp2_with (first
        | (go_at_call 56; refine (HP.out).mono ?_; rintro r w3 ⟨rfl, hB⟩; have HK3 := Lib.hid (HK.out.on hB); clear hB; have HZ := Lib.hid (heap_alloc_new w3 (.cells #[.bool false, .bool false, .int .u8 0, .int .u64 0, .int .u64 0, .int .u64 0, .int .u64 0, .int .u64 0, .bool false, .slice none 0 0, .slice none 0 0, .bool false, .int .u64 0, .slice none 0 0, .slice none 0 0, .slice none 0 0] 100)))
        | (refine wpList_store_rowTo rfl 100 (.tmp 15) (.tmp 42) rfl rfl _ out0C rfl rfl 100 _ HZ.out (show _ = some 16 by kernel_rfl) rfl (by simp [out0C, Value.oneCell']) ?_; have HW := Lib.hid (W13.new (v := .pointer (some ⟨zb, 0, none⟩)) HK3.out (HK3.out.z) #[.bool false, .bool false, .int .u8 0, .int .u64 0, .int .u64 0, .int .u64 0, .int .u64 0, .int .u64 0, .bool false, .slice none 0 0, .slice none 0 0, .bool false, .int .u64 0, .slice none 0 0, .slice none 0 0, .slice none 0 0]); clear HZ; generalize (w3.alloc (.cells #[.bool false, .bool false, .int .u8 0, .int .u64 0, .int .u64 0, .int .u64 0, .int .u64 0, .int .u64 0, .bool false, .slice none 0 0, .slice none 0 0, .bool false, .int .u64 0, .slice none 0 0, .slice none 0 0, .slice none 0 0] 100)).setRow w3.heap.size out0C = w4 at *; have ho := HW.out.cells; obtain ⟨o0, o1, o2, o3, o4, o5, o6, o7, o8, o9, o10, o11, o12, o13, o14, o15⟩ := ho)
        | (refine wpList_load_rowG 100 rfl (.tmp 15) rfl rfl HW.out.o Try.underlying100 rfl (show _ = some 16 by kernel_rfl) ?_)
        | (refine wpList_load_rowG 31 rfl (.tmp 5) rfl rfl HW.out.k.n Try.underlying31 rfl (show _ = some 9 by kernel_rfl) ?_)
        | (go_at_call 57; refine (sameout_w _).mono ?_; rintro r w5 ⟨rfl, hB⟩; (try clear o0 o1 o2 o3 o4 o5 o6 o7 o8 o9 o10 o11 o12 o13 o14 o15); have HW := Lib.hid (HW.out.on hB); clear hB; have hn := HW.out.notes; obtain ⟨n0, n1, n2, n3, n4, n5, n6, n7, n8⟩ := hn)
        | (go_at_call 58; refine (tick_no_w _ 1 _ HW.out.z).mono ?_; rintro r w5 ⟨rfl, hB⟩; (try clear o0 o1 o2 o3 o4 o5 o6 o7 o8 o9 o10 o11 o12 o13 o14 o15; try clear n0 n1 n2 n3 n4 n5 n6 n7 n8); have HW := Lib.hid (HW.out.on hB); clear hB)
        | (go_at_call 59; refine (hear_no_w _ 1 1 _ _ _ _ _ _ _ _ _ _ _ _ _ _ HW.out.z).mono ?_; rintro r w5 ⟨rfl, hB⟩; (try clear o0 o1 o2 o3 o4 o5 o6 o7 o8 o9 o10 o11 o12 o13 o14 o15; try clear n0 n1 n2 n3 n4 n5 n6 n7 n8); have HW := Lib.hid (HW.out.on hB); clear hB)
        | (go_at_call 60; refine (ndpack_no_w _ 1 _ HW.out.z).mono ?_; rintro r w5 ⟨rfl, hB⟩; (try clear o0 o1 o2 o3 o4 o5 o6 o7 o8 o9 o10 o11 o12 o13 o14 o15; try clear n0 n1 n2 n3 n4 n5 n6 n7 n8); have HW := Lib.hid (HW.out.on hB); clear hB)
        | (go_at_call 61; refine (role_no_w _ _ HW.out.z).mono ?_; rintro r w5 ⟨rfl, hB⟩; (try clear o0 o1 o2 o3 o4 o5 o6 o7 o8 o9 o10 o11 o12 o13 o14 o15; try clear n0 n1 n2 n3 n4 n5 n6 n7 n8); have HW := Lib.hid (HW.out.on hB); clear hB)
        | (go_at_call 62; refine (term_no_w _ _ HW.out.z).mono ?_; rintro r w5 ⟨rfl, hB⟩; (try clear o0 o1 o2 o3 o4 o5 o6 o7 o8 o9 o10 o11 o12 o13 o14 o15; try clear n0 n1 n2 n3 n4 n5 n6 n7 n8); have HW := Lib.hid (HW.out.on hB); clear hB)
        | (go_at_call 63; refine (for_no_w _ _ HW.out.z).mono ?_; rintro r w5 ⟨rfl, hB⟩; (try clear o0 o1 o2 o3 o4 o5 o6 o7 o8 o9 o10 o11 o12 o13 o14 o15; try clear n0 n1 n2 n3 n4 n5 n6 n7 n8); have HW := Lib.hid (HW.out.on hB); clear hB)
        | (go_at_call 64; refine (leader_no_w _ _ HW.out.z).mono ?_; rintro r w5 ⟨rfl, hB⟩; (try clear o0 o1 o2 o3 o4 o5 o6 o7 o8 o9 o10 o11 o12 o13 o14 o15; try clear n0 n1 n2 n3 n4 n5 n6 n7 n8); have HW := Lib.hid (HW.out.on hB); clear hB)
        | (go_at_call 65; refine (commit_no_w _ _ HW.out.z).mono ?_; rintro r w5 ⟨rfl, hB⟩; (try clear o0 o1 o2 o3 o4 o5 o6 o7 o8 o9 o10 o11 o12 o13 o14 o15; try clear n0 n1 n2 n3 n4 n5 n6 n7 n8); have HW := Lib.hid (HW.out.on hB); clear hB)
        | (go_at_call 66; refine (track_no_w _ _ HW.out.z).mono ?_; rintro r w5 ⟨rfl, hB⟩; (try clear o0 o1 o2 o3 o4 o5 o6 o7 o8 o9 o10 o11 o12 o13 o14 o15; try clear n0 n1 n2 n3 n4 n5 n6 n7 n8); have HW := Lib.hid (HW.out.on hB); clear hB)
        | (go_at_call 67; refine (rcopy_no_w _ _ HW.out.z).mono ?_; rintro r w5 ⟨rfl, hB⟩; (try clear o0 o1 o2 o3 o4 o5 o6 o7 o8 o9 o10 o11 o12 o13 o14 o15; try clear n0 n1 n2 n3 n4 n5 n6 n7 n8); have HW := Lib.hid (HW.out.on hB); clear hB))
      go_roundw
      case rel => exact ⟨1 + 1, by omega, rfl, Lib.hid HW.out.k⟩
      case measure => simp [intOf]
    | 2, _ =>
      go_wp2_with (go_at_call 50; refine (known_w _).mono ?_; rintro r w5 ⟨rfl, hB⟩; have HK := Lib.hid (HK.out.on hB); clear hB)
      go_ret
      exact ⟨rfl, HK.out.bel⟩
end
end Go.Proofs.Yteellfgiejnigaa
