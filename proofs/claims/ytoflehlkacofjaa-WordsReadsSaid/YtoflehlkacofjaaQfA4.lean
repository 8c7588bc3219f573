/- Bytes that are put together in a variable, beside a command: the small writers and the closures of words.Command. -/
import Derived.Test.YtoflehlkacofjaaQfA3
import Derived.Deep.RegionHeld3
namespace Go.Proofs.Ytoflehlkacofjaa
open Go.ChangeShapes Go.WideShapes Go.ChangeAt Go.RowKit
set_option linter.unusedVariables false
set_option maxRecDepth 100000 in
theorem flag2_w (base : Nat) (v : Value) (l : List UInt8) (f : Bool) (w : World) (ho : OB w base 5 v l) (hl : l.length ≤ 1000000) (hb : base ≤ w.heap.size) :
    Calls Try.prog 30 #[v, .bool f] w fun e w' => ∃ p k c, e = .returned (.slice p k c) ∧ k = (l ++ Form.flag f).length ∧ OB w' base 5 (.slice p k c) (l ++ Form.flag f) ∧ w.grownBy w' v.ownBlock ∧ Near w v (.slice p k c) := by
  have H := Lib.hid ho
  obtain ⟨p0, c0, rfl⟩ := ho.form
  clear ho
  cases f
  · have Hone := Lib.hid (RdB_one w 5 0 (by decide))
    have HO1 := Lib.hid (H.out.alloc (.cells #[.int .u8 0] 5))
    go_enter Try.func30, Try.ntmps30
    go_wp2_with (refine wpList_append_bytes_at rfl (.tmp 9) (.tmp 10) 39 rfl hel rfl HO1.out rfl Hone.out (by simp; omega) (by simp; omega) ?_; intro p1 n1 c1 w1 hn1 ho1 hg1 hr1; have Hn1 := Lib.hid hn1; have Ho1 := Lib.hid ho1; have Hg1 := Lib.hid (grown_of_alloc hg1); have Hr1 := Lib.hid (near_of_alloc hr1); clear hn1 ho1 hg1 hr1)
    go_ret
    exact ⟨p1, n1, c1, rfl, Hn1.out, Ho1.out, Hg1.out, Hr1.out⟩
  · have Hone := Lib.hid (RdB_one w 5 1 (by decide))
    have HO1 := Lib.hid (H.out.alloc (.cells #[.int .u8 1] 5))
    go_enter Try.func30, Try.ntmps30
    go_wp2_with (refine wpList_append_bytes_at rfl (.tmp 6) (.tmp 7) 39 rfl hel rfl HO1.out rfl Hone.out (by simp; omega) (by simp; omega) ?_; intro p1 n1 c1 w1 hn1 ho1 hg1 hr1; have Hn1 := Lib.hid hn1; have Ho1 := Lib.hid ho1; have Hg1 := Lib.hid (grown_of_alloc hg1); have Hr1 := Lib.hid (near_of_alloc hr1); clear hn1 ho1 hg1 hr1)
    go_ret
    exact ⟨p1, n1, c1, rfl, Hn1.out, Ho1.out, Hg1.out, Hr1.out⟩
set_option maxRecDepth 100000 in
theorem order_w (base : Nat) (v : Value) (l : List UInt8) (p q : Int) (w : World) (ho : OB w base 5 v l) (hp : Sp.i64 p) (hq : Sp.i64 q) (hl : l.length ≤ 900000) (hb : base ≤ w.heap.size) :
    Calls Try.prog 31 #[v, .int .i64 p, .int .i64 q] w fun e w' => ∃ a k c, e = .returned (.slice a k c) ∧ k = (l ++ (Form.nat (Form.fold p) ++ Form.nat (Form.fold q))).length ∧ OB w' base 5 (.slice a k c) (l ++ (Form.nat (Form.fold p) ++ Form.nat (Form.fold q))) ∧ w.grownBy w' v.ownBlock ∧ Near w v (.slice a k c) := by
  have H := Lib.hid (int2_w base v l p w ho hp.1 hp.2 (by omega) hb)
  have hl2 : (l ++ Form.nat (Form.fold p)).length ≤ 1000000 := by have := Form.nat_len10 (Form.fold_lt hp.1 hp.2); rw [List.length_append]; omega
  obtain ⟨hq1, hq2⟩ : -9223372036854775808 ≤ q ∧ q ≤ 9223372036854775807 := hq
  obtain ⟨p0, c0, rfl⟩ := ho.form
  clear ho
  go_enter Try.func31, Try.ntmps31
  go_wp2_with (go_at_call 28; first
    | (with_reducible refine (H.out).mono ?_; rintro e W1 ⟨a1, k1, c1, rfl, hk1, ho1, hg1, hn1⟩; have Hk := Lib.hid hk1; have HO := Lib.hid ho1; have HG := Lib.hid hg1; have HN := Lib.hid hn1; have Hb := Lib.hid (Nat.le_trans hb hg1.size); clear hk1 ho1 hg1 hn1)
    | (with_reducible refine (int2_w base (.slice a1 k1 c1) (l ++ Form.nat (Form.fold p)) q W1 HO.out hq1 hq2 hl2 Hb.out).mono ?_; rintro e W2 ⟨a2, k2, c2, rfl, hk2, ho2, hg2, hn2⟩; have Hk2 := Lib.hid hk2; have HO2 := Lib.hid ho2; have HG2 := Lib.hid hg2; have HN2 := Lib.hid hn2; clear hk2 ho2 hg2 hn2))
  go_ret
  exact ⟨a2, k2, c2, rfl, by rw [← List.append_assoc]; exact Hk2.out, by rw [← List.append_assoc]; exact HO2.out, grown_near HG.out HG2.out HN.out, HN.out.trans HN2.out HG.out.size⟩
theorem OB.offCell {w : World} {base : Nat} {e : TypeId} {v : Value} {l : List UInt8} (h : OB w base e v l) {B : Nat} (hB : v.ownBlock ≠ Option.some B) (i : Nat) (x : Value) : OB (w.setCell ⟨B, i, none⟩ x) base e v l := by
  refine ⟨h.1, ?_⟩
  rcases h.2 with h2 | ⟨g, cap, cur, hv, hg, hh, r⟩
  · exact .inl h2
  · refine .inr ⟨g, cap, cur, hv, hg, ?_, r⟩
    rw [Below.heap_setCell _ _ _ _ (fun e => hB (by subst hv; subst e; rfl))]
    exact hh
/-- A command in its variable, bytes in theirs. -/
structure CS (w W : World) (cx : Array Value) (B : Nat) (v : Value) (l : List UInt8) : Prop where
  c : CcAt W w.heap.size cx
  b : W.heap[B]? = some (.cells #[v] 39)
  ob : OB W w.heap.size 5 v l
  offb : v.ownBlock ≠ some B
  offc : v.ownBlock ≠ some w.heap.size
  bw : w.heap.size < B
  below : Below w.heap.size w W
section
variable {w W W' : World} {cx : Array Value} {B : Nat} {v v' : Value} {l l' : List UInt8}
theorem CS.at (h : CS w W cx B v l) (i : Nat) : W.cell? ⟨w.heap.size, i, none⟩ = cx[i]? := h.c.at i
theorem CS.var (h : CS w W cx B v l) : W.cell? ⟨B, 0, none⟩ = some v := by rw [cell_of_row _ _ _ _ _ _ h.b]; rfl
theorem CS.thaw (h : CS w W cx B v l) : W.frozen? ⟨B, 0, none⟩ = false := by
  have hb := h.b
  simp [World.frozen?, hb]
theorem CS.size (h : CS w W cx B v l) : w.heap.size ≤ W.heap.size := h.below.size
/-- What an append to the bytes leaves. -/
theorem CS.cg (h : CS w W cx B v l) (hg : W.grownBy W' v.ownBlock) : CcAt W' w.heap.size cx := (hg.block _ h.c.lt (fun e => h.offc e.symm)).trans h.c
theorem CS.bg (h : CS w W cx B v l) (hg : W.grownBy W' v.ownBlock) : W'.heap[B]? = some (.cells #[v] 39) := (hg.block _ (Array.getElem?_eq_some_iff.1 h.b).1 (fun e => h.offb e.symm)).trans h.b
theorem CS.keep (h : CS w W cx B v l) (hB : Below W.heap.size W W') : CS w W' cx B v l :=
  ⟨h.c.keeps hB.block, (hB.block _ (Array.getElem?_eq_some_iff.1 h.b).1).trans h.b, h.ob.keeps (show Keeps W W' from hB.block), h.offb, h.offc, h.bw, h.below.trans (hB.mono h.below.size)⟩
theorem CS.write (h : CS w W cx B v l) (hg : W.grownBy W' v.ownBlock) (hn : Near W v v') (ho : OB W' w.heap.size 5 v' l') : CS w (W'.setCell ⟨B, 0, none⟩ v') cx B v' l' := by
  have hBl : B < W.heap.size := (Array.getElem?_eq_some_iff.1 h.b).1
  have hob : v'.ownBlock ≠ some B := by
    rcases hn with e | ⟨g, e, hg⟩
    · rw [e]; exact h.offb
    · rw [e]; intro e2; cases e2; omega
  have hoc : v'.ownBlock ≠ some w.heap.size := by
    rcases hn with e | ⟨g, e, hg⟩
    · rw [e]; exact h.offc
    · rw [e]; intro e2; cases e2; have := h.bw; omega
  have hb' := h.bg hg
  refine ⟨?_, ?_, ho.offCell hob 0 v', hob, hoc, h.bw, ?_⟩
  · unfold CcAt
    rw [Below.heap_setCell _ _ _ _ (by have := h.bw; simp; omega)]
    exact h.cg hg
  · simp only [World.setCell, Array.getElem?_modify, hb', if_true, Option.map_some]
    rfl
  · exact (h.below.grown hg h.below.size (fun k e => (h.ob.lt k e).1)).grown (Lib.grownBy_setCell W' B 0 v') (Nat.le_trans h.below.size hg.size) (fun k e => by cases e; exact Nat.le_of_lt h.bw)
end
set_option maxRecDepth 100000 in
theorem acc_w (a : Nat) (cx : Array Value) (B : Nat) (v : Value) (l : List UInt8) (w W : World) (h : CS w W cx B v l) (hc : cx[1]? = some (.int .u32 (a : Int))) (ha : a < 2 ^ 32) (hl : l.length ≤ 1000000) :
    Calls Try.prog 26 #[.pointer (some ⟨B, 0, none⟩), .pointer (some ⟨w.heap.size, 0, none⟩)] W fun e W' => e = .returned (.tuple #[]) ∧ ∃ v', CS w W' cx B v' (l ++ Form.nat a) := by
  have H := Lib.hid h
  obtain ⟨p0, c0, rfl⟩ := h.ob.form
  have x1 := (h.at 1).trans hc
  have x2 := h.var
  have hw : IntKind.u64.wrap (a : Int) = (a : Int) := IntWalk.u64_in _ (by omega)
  clear h hc
  go_enter Try.func26, Try.ntmps26
  go_wp2_with (go_at_call 25; (with_reducible refine (nat2_w w.heap.size _ l a W H.out.ob (by omega) hl H.out.size).mono ?_); rintro e W1 ⟨p, k, c, rfl, hk, ho, hg, hn⟩
               have HS := Lib.hid (H.out.write hg hn ho)
               have y : W1.cell? ⟨B, 0, none⟩ = some (Value.slice p0 l.length c0) := by rw [cell_of_row _ _ _ _ _ _ (H.out.bg hg)]; rfl
               have z : W1.frozen? ⟨B, 0, none⟩ = false := by have hb := H.out.bg hg; simp [World.frozen?, hb]
               clear hk ho hg hn)
  go_end0
  exact ⟨rfl, _, HS.out⟩
set_option maxRecDepth 100000 in
theorem con_w (a : Nat) (cx : Array Value) (B : Nat) (v : Value) (l : List UInt8) (w W : World) (h : CS w W cx B v l) (hc : cx[2]? = some (.int .u32 (a : Int))) (ha : a < 2 ^ 32) (hl : l.length ≤ 1000000) :
    Calls Try.prog 27 #[.pointer (some ⟨B, 0, none⟩), .pointer (some ⟨w.heap.size, 0, none⟩)] W fun e W' => e = .returned (.tuple #[]) ∧ ∃ v', CS w W' cx B v' (l ++ Form.nat a) := by
  have H := Lib.hid h
  obtain ⟨p0, c0, rfl⟩ := h.ob.form
  have x1 := (h.at 2).trans hc
  have x2 := h.var
  have hw : IntKind.u64.wrap (a : Int) = (a : Int) := IntWalk.u64_in _ (by omega)
  clear h hc
  go_enter Try.func27, Try.ntmps27
  go_wp2_with (go_at_call 25; (with_reducible refine (nat2_w w.heap.size _ l a W H.out.ob (by omega) hl H.out.size).mono ?_); rintro e W1 ⟨p, k, c, rfl, hk, ho, hg, hn⟩
               have HS := Lib.hid (H.out.write hg hn ho)
               have y : W1.cell? ⟨B, 0, none⟩ = some (Value.slice p0 l.length c0) := by rw [cell_of_row _ _ _ _ _ _ (H.out.bg hg)]; rfl
               have z : W1.frozen? ⟨B, 0, none⟩ = false := by have hb := H.out.bg hg; simp [World.frozen?, hb]
               clear hk ho hg hn)
  go_end0
  exact ⟨rfl, _, HS.out⟩
end Go.Proofs.Ytoflehlkacofjaa
