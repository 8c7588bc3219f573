/- Lists, read: rows of the call's own; what is taken; the closures. -/
import Derived.Test.YtoflehlkacofjaaQfB7
import Derived.Deep.Cut
import Derived.Deep.CutRange
import Derived.Deep.RegionHeld3
import Derived.Deep.RegionWith
namespace Go.Proofs.Ytoflehlkacofjaa
open Go.ChangeShapes Go.WideShapes Go.ChangeAt Go.RowKit
set_option linter.unusedVariables false
section
variable {w w' : World} {base : Nat} {e : TypeId} {c : Nat} {v : Value} {n : Nat} {xs : List Value}
theorem own_moved {R : Nat} (h : w.ownsRow base e c v n xs) (hg : w.grownBy w' (some R)) (hR : R < base) : w'.ownsRow base e c v n xs := by
  refine ⟨h.1, ?_⟩
  rcases h.2 with h2 | ⟨g, cap, cur, hv, hgb, hh, r⟩
  · exact .inl h2
  · exact .inr ⟨g, cap, cur, hv, hgb, by rw [hg.block g (Array.getElem?_eq_some_iff.1 hh).1 (by simp; omega)]; exact hh, r⟩
theorem own_keeps (h : w.ownsRow base e c v n xs) (hb : Keeps w w') : w'.ownsRow base e c v n xs := by
  refine ⟨h.1, ?_⟩
  rcases h.2 with h2 | ⟨g, cap, cur, hv, hg, hh, r⟩
  · exact .inl h2
  · exact .inr ⟨g, cap, cur, hv, hg, by rw [hb g (Array.getElem?_eq_some_iff.1 hh).1]; exact hh, r⟩
theorem own_form (h : w.ownsRow base e c v n xs) : ∃ p cap, v = .slice p n cap := by
  rcases h.2 with ⟨rfl, hn⟩ | ⟨g, cap, cur, rfl, _⟩
  · exact ⟨none, 0, by rw [hn]⟩
  · exact ⟨_, _, rfl⟩
theorem own_rdc (h : w.ownsRow base e c v n xs) : RdC w v c n xs := by
  have hl := h.1
  rcases h.2 with ⟨rfl, hn⟩ | ⟨g, cap, cur, rfl, hg, hh, h1, h2, h3, h4⟩
  · subst hn
    exact ⟨none, 0, rfl, Nat.le_refl _, by unfold maxLen; omega, by simpa using hl, fun h => absurd rfl h⟩
  · refine ⟨_, _, rfl, h1, h2, by simpa using hl, fun _ => ⟨g, 0, rfl, fun i u hu => ?_⟩⟩
    rw [cell_of_row _ _ _ _ _ _ hh, Nat.zero_add]
    rw [← h4, List.getElem?_take] at hu
    split at hu
    · simpa using hu
    · cases hu
end
theorem he33 : Elem Try.prog 33 24 (.int .u64 0) 1 8 := ⟨Try.underlying33, by kernel_rfl, rfl, by decide⟩
theorem he34 : Elem Try.prog 34 23 (.int .u32 0) 1 4 := ⟨Try.underlying34, by kernel_rfl, rfl, by decide⟩
theorem he32 : Elem Try.prog 32 62 (.agg #[.int .i64 0, .int .i64 0, .int .u64 0, .int .u32 0]) 4 32 := ⟨Try.underlying32, by kernel_rfl, rfl, by decide⟩
/-- One element in a block of its own. -/
theorem one_src {W : World} {e : TypeId} {c B : Nat} {xs : Array Value} (h : W.heap[B]? = some (.cells xs e)) (hx : xs.size = c) (h1 : ∀ u ∈ xs.toList, u.oneCell' = true) : SrcR W c (.slice (some ⟨B, 0, none⟩) 1 1) 1 xs.toList := by
  refine ⟨_, _, rfl, by simp [hx], h1, .inr ⟨_, rfl, fun j u hu => ?_⟩⟩
  have hadd : (⟨B, 0, none⟩ : Addr).add j = ⟨B, 0 + j, none⟩ := by unfold Addr.add; split <;> simp_all
  rw [hadd, cell_of_row _ _ _ _ _ _ h, Nat.zero_add]
  simpa using hu
/-- append of one element. -/
theorem wpList_append_one {P : Program} {ops : Array Oper} {rest : List Oper} {o : Oper} {a : Act} {w : World} {Q : Exit → Act → World → Prop} (hgd : o.guard = none) (s x : Operand) (t : TypeId) (ho : o.op = .call { callee := .builtin .append, args := #[s, x], argTypes := #[t, t] })
    {base : Nat} {e : TypeId} {z : Value} {size bytes : Nat} (he : Elem P t e z size bytes)
    {v : Value} {n : Nat} {xs : List Value} (hs : a.eval s = v) (hown : w.ownsRow base e size v n xs) {xv : Value} {news : List Value} (hx : a.eval x = xv) (hsrc : SrcR w size xv 1 news)
    (hn : n ≤ 100000) (hbytes : bytes ≤ 64) (hbase : base ≤ w.heap.size)
    (h : ∀ p c w', w'.ownsRow base e size (.slice p (n + 1) c) (n + 1) (xs ++ news) → w.grownBy w' v.ownBlock → wpList P ops Q rest (a.put o.dst (.slice p (n + 1) c)) w') : wpList P ops Q (o :: rest) a w :=
  wpList_append_src hgd s x t ho he hs hown hx hsrc (by unfold maxLen; omega) (by have : (n + 1) * bytes ≤ (n + 1) * 64 := Nat.mul_le_mul_left _ hbytes; omega) hbase (fun v' w' h1 h2 => by
    obtain ⟨p, c, rfl⟩ := own_form h1
    exact h p c w' h1 h2)

/-! ### The model -/
/-- Where a reader stands behind k elements. -/
def stN {α : Type} (step : Nat → Int → α × Nat × Int) (a : Nat) (e : Int) : Nat → Nat × Int
  | 0 => (a, e)
  | k + 1 => (step (stN step a e k).1 (stN step a e k).2).2
def elN {α : Type} (step : Nat → Int → α × Nat × Int) (a : Nat) (e : Int) (k : Nat) : List α := (List.range k).map fun i => (step (stN step a e i).1 (stN step a e i).2).1
theorem elN_succ {α : Type} (step : Nat → Int → α × Nat × Int) (a : Nat) (e : Int) (k : Nat) : elN step a e (k + 1) = elN step a e k ++ [(step (stN step a e k).1 (stN step a e k).2).1] := by unfold elN; rw [List.range_succ, List.map_append]; rfl
theorem elN_len {α : Type} (step : Nat → Int → α × Nat × Int) (a : Nat) (e : Int) (k : Nat) : (elN step a e k).length = k := by unfold elN; simp
/-- What 'taken' gives, and where it leaves the reader. -/
def TkRel {α : Type} (step : Nat → Int → α × Nat × Int) (b : List UInt8) (a : Nat) (e : Int) (l : List α) (a' : Nat) (e' : Int) : Prop :=
  (l = elN step (Form.small b a e 4000).2.1 (Form.small b a e 4000).2.2 (Form.small b a e 4000).1 ∧ (a', e') = stN step (Form.small b a e 4000).2.1 (Form.small b a e 4000).2.2 (Form.small b a e 4000).1 ∧
    ∀ k, k < (Form.small b a e 4000).1 → (stN step (Form.small b a e 4000).2.1 (Form.small b a e 4000).2.2 k).1 < b.length) ∨
  (l = [] ∧ ∃ k, k < (Form.small b a e 4000).1 ∧ b.length ≤ (stN step (Form.small b a e 4000).2.1 (Form.small b a e 4000).2.2 k).1 ∧ a' = (stN step (Form.small b a e 4000).2.1 (Form.small b a e 4000).2.2 k).1 ∧
    e' = if (stN step (Form.small b a e 4000).2.1 (Form.small b a e 4000).2.2 k).2 = 0 then 5 else (stN step (Form.small b a e 4000).2.1 (Form.small b a e 4000).2.2 k).2)
/-- The elements. -/
def s64 (b : List UInt8) (a : Nat) (e : Int) : Nat × Nat × Int := Form.small b a e 18446744073709551615
def s32 (b : List UInt8) (a : Nat) (e : Int) : Nat × Nat × Int := Form.small b a e 4294967295
def sTr (b : List UInt8) (a : Nat) (e : Int) : Tr × Nat × Int :=
  let r1 := s64 b a e
  let r2 := s64 b r1.2.1 r1.2.2
  let r3 := s64 b r2.2.1 r2.2.2
  let r4 := s32 b r3.2.1 r3.2.2
  (⟨Form.unfold_ r1.1, Form.unfold_ r2.1, r3.1, r4.1⟩, r4.2)
theorem s64_at {b : List UInt8} {a : Nat} {e : Int} (h : a ≤ b.length) : (s64 b a e).2.1 ≤ b.length := small_at h
theorem s32_at {b : List UInt8} {a : Nat} {e : Int} (h : a ≤ b.length) : (s32 b a e).2.1 ≤ b.length := small_at h
theorem sTr_at {b : List UInt8} {a : Nat} {e : Int} (h : a ≤ b.length) : (sTr b a e).2.1 ≤ b.length := s32_at (s64_at (s64_at (s64_at h)))
theorem s64_lt (b : List UInt8) (a : Nat) (e : Int) : (s64 b a e).1 < 2 ^ 64 := by have := small_top b a e 18446744073709551615; unfold s64; omega
theorem s32_lt (b : List UInt8) (a : Nat) (e : Int) : (s32 b a e).1 < 2 ^ 32 := by have := small_top b a e 4294967295; unfold s32; omega
theorem sTr_ok (b : List UInt8) (a : Nat) (e : Int) : (sTr b a e).1.ok := ⟨Form.unfold_bd _ (s64_lt ..), Form.unfold_bd _ (s64_lt ..), s64_lt .., s32_lt ..⟩
/-- A reader in a variable's hands: block V tells where it is. -/
structure RV (W : World) (v : Value) (b : List UInt8) (R V : Nat) (a : Nat) (e : Int) : Prop where
  rd : Rdr W R v a e
  bs : RdB W v b
  rv : W.heap[V]? = some (.cells #[.pointer (some ⟨R, 0, none⟩)] 70)
  off : Off v R
  ha : a ≤ b.length
  hl : b.length ≤ 1000000
  nRV : R ≠ V
section
variable {W W' : World} {v : Value} {b : List UInt8} {R V : Nat} {a : Nat} {e : Int}
theorem RV.var (h : RV W v b R V a e) : W.cell? ⟨V, 0, none⟩ = some (.pointer (some ⟨R, 0, none⟩)) := by rw [cell_of_row _ _ _ _ _ _ h.rv]; rfl
theorem RV.moved (h : RV W v b R V a e) {a' : Nat} {e' : Int} (hm : Moved W W' R v a' e') (ha : a' ≤ b.length) : RV W' v b R V a' e' :=
  ⟨hm.1, h.bs.grown hm.2 h.off, by rw [hm.2.block V (Array.getElem?_eq_some_iff.1 h.rv).1 (by simpa using Ne.symm h.nRV)]; exact h.rv, h.off, ha, h.hl, h.nRV⟩
theorem RV.keeps (h : RV W v b R V a e) (hk : Keeps W W') : RV W' v b R V a e :=
  ⟨h.rd.keeps hk, h.bs.keeps hk, (hk _ (Array.getElem?_eq_some_iff.1 h.rv).1).trans h.rv, h.off, h.ha, h.hl, h.nRV⟩
theorem RV.lR (h : RV W v b R V a e) : R < W.heap.size := h.rd.lt
theorem RV.lV (h : RV W v b R V a e) : V < W.heap.size := (Array.getElem?_eq_some_iff.1 h.rv).1
end
set_option maxRecDepth 100000 in
theorem acct49_w {W : World} {v : Value} {b : List UInt8} {R V : Nat} {a : Nat} {e : Int} (h : RV W v b R V a e) :
    Calls Try.prog 49 #[.pointer (some ⟨V, 0, none⟩)] W fun r W' => r = .returned (.int .u32 ((s32 b a e).1 : Int)) ∧ Moved W W' R v (s32 b a e).2.1 (s32 b a e).2.2 := by
  have H := Lib.hid h
  have hv := h.var
  have hlt := s32_lt b a e
  clear h
  go_enter Try.func49, Try.ntmps49
  go_wp2_with (go_at_call 42; (with_reducible refine (small_z R v b a e 4294967295 4294967295 rfl W H.out.rd H.out.bs H.out.ha H.out.hl (by decide)).mono ?_); rintro r W1 ⟨n, a1, e1, hs, rfl, hm⟩
               have hs' : s32 b a e = (n, a1, e1) := hs
               rw [hs'] at hlt
               have HS := Lib.hid hs'
               have HM := Lib.hid hm
               have hwn : IntKind.u32.wrap (n : Int) = (n : Int) := IntWalk.u32_in _ (by omega)
               clear hs hs' hm)
  go_ret
  rw [HS.out]
  exact ⟨rfl, HM.out⟩
/-- A trade that is being read, at block g. -/
def ZAt (W : World) (g : Nat) (cs : Array Value) : Prop := W.heap[g]? = some (.cells cs 62)
theorem ZAt.new (W : World) (cs : Array Value) : ZAt (W.alloc (.cells cs 62)) W.heap.size cs := heap_alloc_new W _
theorem ZAt.moved {W W1 : World} {g R : Nat} {cs : Array Value} {v : Value} {a : Nat} {e : Int} (h : ZAt W g cs) (hm : Moved W W1 R v a e) (hne : g ≠ R) : ZAt W1 g cs := by
  unfold ZAt at *
  rw [hm.2.block g (Array.getElem?_eq_some_iff.1 h).1 (by simpa using hne)]; exact h
theorem ZAt.drew {W : World} {g : Nat} {cs : Array Value} (h : ZAt W g cs) : ZAt W.drew g cs := h
theorem World.grownBy_drew (W : World) (row : Option Nat) : W.grownBy W.drew row := ⟨rfl, rfl, rfl, Nat.le_refl _, fun _ _ _ => rfl⟩
theorem ZAt.keeps {W W1 : World} {g : Nat} {cs : Array Value} (h : ZAt W g cs) (hk : Keeps W W1) : ZAt W1 g cs := (hk g (Array.getElem?_eq_some_iff.1 h).1).trans h
theorem ZAt.c {W : World} {g : Nat} (h : ZAt W g #[.int .i64 0, .int .i64 0, .int .u64 0, .int .u32 0]) (i : Nat) : W.cell? ⟨g, i, none⟩ = (#[.int .i64 0, .int .i64 0, .int .u64 0, .int .u32 0] : Array Value)[i]? := cell_of_row _ _ _ _ _ _ h
theorem ZAt.f {W : World} {g : Nat} {cs : Array Value} (h : ZAt W g cs) (i : Nat) : W.frozen? ⟨g, i, none⟩ = false := by
  unfold ZAt at h
  simp [World.frozen?, h]
theorem ZAt.cc {W : World} {g : Nat} {cs : Array Value} (h : ZAt W g cs) (i : Nat) : W.cell? ⟨g, i, none⟩ = cs[i]? := cell_of_row _ _ _ _ _ _ h
theorem ZAt.set {W : World} {g : Nat} {cs : Array Value} (h : ZAt W g cs) (i : Nat) (v : Value) : ZAt (W.setCell ⟨g, i, none⟩ v) g (cs.setIfInBounds i v) := by
  unfold ZAt at *
  simp only [World.setCell, Array.getElem?_modify, h, if_true, Option.map_some]
  rfl
theorem ZAt.other {W W1 : World} {g g2 : Nat} {cs : Array Value} (h : ZAt W g cs) (hg : W.grownBy W1 (some g2)) (hne : g ≠ g2) : ZAt W1 g cs := by
  unfold ZAt at *
  rw [hg.block g (Array.getElem?_eq_some_iff.1 h).1 (by simpa using hne)]; exact h
/-- A trade is being read. -/
structure TI (W wx : World) (v : Value) (b : List UInt8) (R V : Nat) (a : Nat) (e : Int) (g : Nat) (cs : Array Value) : Prop where
  z : ZAt wx g cs
  r : RV wx v b R V a e
  gr : W.grownBy wx (some R)
  hg : W.heap.size < g
  hR : R < W.heap.size
  hV : V < W.heap.size
  t : ZAt wx W.heap.size #[.int .i64 0, .int .i64 0, .int .u64 0, .int .u32 0]
  os : ∀ x, W.heap.size ≤ x → Off v x
theorem grown_set {W wx : World} {R g i : Nat} {v : Value} (h : W.grownBy wx (some R)) (hg : W.heap.size < g) : W.grownBy (wx.setCell ⟨g, i, none⟩ v) (some R) := by
  have k := Lib.grownBy_setCell wx g i v
  exact ⟨k.os.trans h.os, k.tape.trans h.tape, k.output.trans h.output, Nat.le_trans h.size k.size, fun x hx hne => by rw [k.block x (Nat.lt_of_lt_of_le hx h.size) (by simp; omega), h.block x hx hne]⟩
theorem TI.set {W wx : World} {v : Value} {b : List UInt8} {R V : Nat} {a : Nat} {e : Int} {g : Nat} {cs : Array Value} (h : TI W wx v b R V a e g cs) (i : Nat) (x : Value) : TI W (wx.setCell ⟨g, i, none⟩ x) v b R V a e g (cs.setIfInBounds i x) := by
  have k := Lib.grownBy_setCell wx g i x
  have hR := h.hR; have hV := h.hV; have hgg := h.hg
  have hs := h.gr.size
  have ho : Off v g := h.os g (Nat.le_of_lt hgg)
  exact ⟨h.z.set i x, ⟨by have h1 := h.r.rd; unfold Rdr at *; rw [k.block R (Array.getElem?_eq_some_iff.1 h1).1 (by simp; omega)]; exact h1, h.r.bs.grown k ho, by rw [k.block V h.r.lV (by simp; omega)]; exact h.r.rv, h.r.off, h.r.ha, h.r.hl, h.r.nRV⟩, grown_set h.gr hgg, hgg, hR, hV, h.t.other k (by omega), h.os⟩
theorem TI.moved {W wx w1 : World} {v : Value} {b : List UInt8} {R V : Nat} {a a' : Nat} {e e' : Int} {g : Nat} {cs : Array Value} (h : TI W wx v b R V a e g cs) (hm : Moved wx w1 R v a' e') (ha : a' ≤ b.length) : TI W w1 v b R V a' e' g cs :=
  ⟨h.z.moved hm (by have := h.hg; have := h.hR; omega), h.r.moved hm ha, h.gr.trans hm.2, h.hg, h.hR, h.hV, h.t.moved hm (by have := h.hR; omega), h.os⟩
theorem TI.alloc {W w2 : World} {v : Value} {b : List UInt8} {R V : Nat} {a : Nat} {e : Int} (h : RV w2 v b R V a e) (hg : W.grownBy w2 (some R)) (ht : ZAt w2 W.heap.size #[.int .i64 0, .int .i64 0, .int .u64 0, .int .u32 0]) (hR : R < W.heap.size) (hV : V < W.heap.size) (os : ∀ x, W.heap.size ≤ x → Off v x) (cs : Array Value) :
    TI W (w2.alloc (.cells cs 62)) v b R V a e w2.heap.size cs := by
  have hlt := (Array.getElem?_eq_some_iff.1 ht).1
  exact ⟨ZAt.new w2 cs, h.keeps ((Keeps.refl w2).alloc _), hg.trans (World.grownBy_alloc w2 _ _), hlt, hR, hV, (Below.heap_alloc _ _ _ hlt).trans ht, os⟩
/-- What the first statement leaves: the block, and the two numbers. -/
def T1 (W wx : World) (v : Value) (b : List UInt8) (R V : Nat) (a : Nat) (e : Int) (t : Value) : Prop := ∃ g, t = .pointer (some ⟨g, 0, none⟩) ∧
  TI W wx v b R V (s64 b (s64 b a e).2.1 (s64 b a e).2.2).2.1 (s64 b (s64 b a e).2.1 (s64 b a e).2.2).2.2 g #[.int .i64 (Form.unfold_ (s64 b a e).1), .int .i64 (Form.unfold_ (s64 b (s64 b a e).2.1 (s64 b a e).2.2).1), .int .u64 0, .int .u32 0]
theorem T1.of {W wx : World} {v : Value} {b : List UInt8} {R V : Nat} {a : Nat} {e : Int} {g n a1 n2 a2 : Nat} {e1 e2 : Int} (h1 : s64 b a e = (n, a1, e1)) (h2 : s64 b a1 e1 = (n2, a2, e2))
    (h : TI W wx v b R V a2 e2 g #[.int .i64 (Form.unfold_ n), .int .i64 (Form.unfold_ n2), .int .u64 0, .int .u32 0]) : T1 W wx v b R V a e (.pointer (some ⟨g, 0, none⟩)) := by
  refine ⟨g, rfl, ?_⟩
  rw [h1]
  show TI W wx v b R V (s64 b a1 e1).2.1 (s64 b a1 e1).2.2 g _
  simp only [h2]
  exact h
set_option maxRecDepth 100000 in
set_option maxHeartbeats 3200000 in
theorem trade46_w {W : World} {v : Value} {b : List UInt8} {R V : Nat} {a : Nat} {e : Int} (h : RV W v b R V a e) :
    Calls Try.prog 46 #[.pointer (some ⟨V, 0, none⟩)] W fun r W' => r = .returned (.agg (sTr b a e).1.cells.toArray) ∧ Moved W W' R v (sTr b a e).2.1 (sTr b a e).2.2 := by
  obtain ⟨W0, hW0⟩ : ∃ W0, W.alloc (.cells #[.int .i64 0, .int .i64 0, .int .u64 0, .int .u32 0] 62) = W0 := ⟨_, rfl⟩
  have HZ0 := Lib.hid (show ZAt W0 W.heap.size #[.int .i64 0, .int .i64 0, .int .u64 0, .int .u32 0] by rw [← hW0]; exact ZAt.new W _)
  have HG0 := Lib.hid (show W.grownBy W0 (some R) by rw [← hW0]; exact World.grownBy_alloc W _ _)
  have H := Lib.hid (show RV W0.drew v b R V a e by rw [← hW0]; exact h.keeps (((Keeps.refl W).alloc (.cells #[.int .i64 0, .int .i64 0, .int .u64 0, .int .u32 0] 62)).drew))
  have H00 := Lib.hid (show RV W0 v b R V a e by rw [← hW0]; exact h.keeps ((Keeps.refl W).alloc (.cells #[.int .i64 0, .int .i64 0, .int .u64 0, .int .u32 0] 62)))
  have HW0 := Lib.hid hW0
  have hv := H.out.var
  have hv0 : W0.cell? ⟨V, 0, none⟩ = some (.pointer (some ⟨R, 0, none⟩)) := hv
  have nn0 := World.new_ne _ _ hv0
  clear hW0
  have HlR := Lib.hid h.lR
  have HlV := Lib.hid h.lV
  have HZR := Lib.hid (show W.heap.size ≠ R from Nat.ne_of_gt h.lR)
  have Hos := Lib.hid (show ∀ x, W.heap.size ≤ x → Off v x from fun x hx => h.bs.off hx)
  clear h
  go_enter Try.func46, Try.ntmps46
  go_upto_region 1 with fail
  rw [HW0.out]
  go_cut [2] from 3 to 8 (fun t wx => Hid (T1 W wx v b R V a e t))
  case first =>
    go_region_held3 (fun w' => w'.cell? ⟨V, 0, none⟩ = some (.pointer (some ⟨R, 0, none⟩))) (go_keep) ((go_at_call 44; first
      | ((with_reducible refine (rint_w R v b a e _ H.out.rd H.out.bs H.out.ha H.out.hl).mono ?_); rintro r W1 ⟨n, a1, e1, hs, rfl, hm⟩
         have HS1 := Lib.hid (show s64 b a e = (n, a1, e1) from hs)
         have HM1 := Lib.hid hm
         have H1 := Lib.hid (H.out.moved hm (by have := s64_at (e := e) H.out.ha; rw [HS1.out] at this; exact this))
         have v1 := H1.out.var
         have nn1 := World.new_ne _ _ v1
         clear hs hm)
      | ((with_reducible refine (rint_w R v b a e _ (H00.out.keeps (((Keeps.refl W0).alloc (.cells #[.int .i64 0, .int .i64 0, .int .u64 0, .int .u32 0] 62)).drew)).rd (H00.out.keeps (((Keeps.refl W0).alloc (.cells #[.int .i64 0, .int .i64 0, .int .u64 0, .int .u32 0] 62)).drew)).bs H.out.ha H.out.hl).mono ?_); rintro r W1 ⟨n, a1, e1, hs, rfl, hm⟩
         have HS1 := Lib.hid (show s64 b a e = (n, a1, e1) from hs)
         have HM1 := Lib.hid hm
         have H1 := Lib.hid ((H00.out.keeps (((Keeps.refl W0).alloc (.cells #[.int .i64 0, .int .i64 0, .int .u64 0, .int .u32 0] 62)).drew)).moved hm (by have := s64_at (e := e) H.out.ha; rw [HS1.out] at this; exact this))
         have v1 := H1.out.var
         have nn1 := World.new_ne _ _ v1
         have HZ1 := Lib.hid ((show ZAt (W0.alloc (.cells #[.int .i64 0, .int .i64 0, .int .u64 0, .int .u32 0] 62)).drew W0.heap.size _ from ZAt.new W0 _).moved hm (Nat.ne_of_gt H00.out.lR))
         clear hs hm)
      | ((with_reducible refine (rint_w R v b a1 e1 W1 H1.out.rd H1.out.bs H1.out.ha H1.out.hl).mono ?_); rintro r W2 ⟨n2, a2, e2, hs, rfl, hm⟩
         have HS2 := Lib.hid (show s64 b a1 e1 = (n2, a2, e2) from hs)
         have HM2 := Lib.hid hm
         have H2 := Lib.hid (H1.out.moved hm (by have := s64_at (e := e1) H1.out.ha; rw [HS2.out] at this; exact this))
         have v2 := H2.out.var
         have nn2 := World.new_ne _ _ v2
         try have HZ2 := Lib.hid (HZ1.out.moved hm (Nat.ne_of_gt H00.out.lR))
         try have y0 := HZ2.out.c 0
         try have y1 := HZ2.out.c 1
         try have y2 := HZ2.out.c 2
         try have y3 := HZ2.out.c 3
         try have y4 := HZ2.out.f
         clear hs hm)
      | ((with_reducible refine (rint_w R v b a1 e1 _ (H1.out.keeps ((Keeps.refl W1).alloc (.cells #[.int .i64 0, .int .i64 0, .int .u64 0, .int .u32 0] 62))).rd (H1.out.keeps ((Keeps.refl W1).alloc (.cells #[.int .i64 0, .int .i64 0, .int .u64 0, .int .u32 0] 62))).bs H1.out.ha H1.out.hl).mono ?_); rintro r W2 ⟨n2, a2, e2, hs, rfl, hm⟩
         have HS2 := Lib.hid (show s64 b a1 e1 = (n2, a2, e2) from hs)
         have HM2 := Lib.hid hm
         have H2 := Lib.hid ((H1.out.keeps ((Keeps.refl W1).alloc (.cells #[.int .i64 0, .int .i64 0, .int .u64 0, .int .u32 0] 62))).moved hm (by have := s64_at (e := e1) H1.out.ha; rw [HS2.out] at this; exact this))
         have v2 := H2.out.var
         have nn2 := World.new_ne _ _ v2
         have HZ2 := Lib.hid ((ZAt.new W1 _).moved hm (Nat.ne_of_gt H1.out.lR))
         have y0 := HZ2.out.c 0
         have y1 := HZ2.out.c 1
         have y2 := HZ2.out.c 2
         have y3 := HZ2.out.c 3
         have y4 := HZ2.out.f
         clear hs hm)))
    · go_wp2_with fail
      go_meet
      exact Lib.hid (T1.of HS1.out HS2.out (TI.alloc H2.out (HG0.out.trans ((World.grownBy_drew _ _).trans (HM1.out.2.trans HM2.out.2))) ((HZ0.out.drew.moved HM1.out HZR.out).moved HM2.out HZR.out) HlR.out HlV.out Hos.out _))
    · go_wp2_with fail
      go_meet
      have h0 : TI W W2 v b R V a2 e2 W1.heap.size #[.int .i64 0, .int .i64 0, .int .u64 0, .int .u32 0] :=
        ⟨HZ2.out, H2.out, HG0.out.trans ((World.grownBy_drew _ _).trans (HM1.out.2.trans ((World.grownBy_alloc W1 _ _).trans HM2.out.2))), Nat.lt_of_lt_of_le (Array.getElem?_eq_some_iff.1 HZ0.out).1 HM1.out.2.size, HlR.out, HlV.out,
          ((HZ0.out.drew.moved HM1.out HZR.out).keeps ((Keeps.refl W1).alloc _)).moved HM2.out HZR.out, Hos.out⟩
      exact Lib.hid (T1.of HS1.out HS2.out ((((h0.set 0 _).set 1 _).set 2 _).set 3 _))
    · go_wp2_with fail
      go_meet
      have h0 : TI W W2 v b R V a2 e2 W0.heap.size #[.int .i64 0, .int .i64 0, .int .u64 0, .int .u32 0] :=
        ⟨HZ2.out, H2.out, HG0.out.trans ((World.grownBy_alloc W0 _ _).trans ((World.grownBy_drew _ _).trans (HM1.out.2.trans HM2.out.2))), (Array.getElem?_eq_some_iff.1 HZ0.out).1, HlR.out, HlV.out,
          (((HZ0.out.keeps ((Keeps.refl W0).alloc _)).drew.moved HM1.out HZR.out).moved HM2.out HZR.out), Hos.out⟩
      exact Lib.hid (T1.of HS1.out HS2.out ((((h0.set 0 _).set 1 _).set 2 _).set 3 _))
  case rest =>
    obtain ⟨g, rfl, hT⟩ := hcut.out
    obtain ⟨r1, hr1⟩ : ∃ r, s64 b a e = r := ⟨_, rfl⟩
    obtain ⟨n1, a1, e1⟩ := r1
    rw [hr1] at hT
    obtain ⟨r2, hr2⟩ : ∃ r, s64 b a1 e1 = r := ⟨_, rfl⟩
    obtain ⟨n2, a2, e2⟩ := r2
    dsimp only at hT
    rw [hr2] at hT
    dsimp only at hT
    have HT := Lib.hid hT
    have HS1 := Lib.hid hr1
    have HS2 := Lib.hid hr2
    have hvr := hT.r.var
    clear hT hr1 hr2 hcut H H00 hv hv0 nn0 HW0 HG0 HZ0
    go_wp2_with (first
      | (go_at_call 43; (with_reducible refine (rnat_w R v b a2 e2 wc HT.out.r.rd HT.out.r.bs HT.out.r.ha HT.out.r.hl).mono ?_); rintro r W3 ⟨n3, a3, e3, hs, rfl, hm⟩
         have HS3 := Lib.hid (show s64 b a2 e2 = (n3, a3, e3) from hs)
         have HT3 := Lib.hid (HT.out.moved hm (by have := s64_at (e := e2) HT.out.r.ha; rw [HS3.out] at this; exact this))
         have y2 := HT3.out.z.cc 2
         have z2 := HT3.out.z.f 2
         have HT4 := Lib.hid (show TI W (W3.setCell ⟨g, 2, none⟩ (.int .u64 (n3 : Int))) v b R V a3 e3 g #[.int .i64 (Form.unfold_ n1), .int .i64 (Form.unfold_ n2), .int .u64 (n3 : Int), .int .u32 0] from HT3.out.set 2 (.int .u64 (n3 : Int)))
         have hv4 := HT4.out.r.var
         clear hs hm)
      | (go_at_call 42; (with_reducible refine (small_z R v b a3 e3 4294967295 4294967295 rfl _ HT4.out.r.rd HT4.out.r.bs HT4.out.r.ha HT4.out.r.hl (by decide)).mono ?_); rintro r W5 ⟨n4, a4, e4, hs, rfl, hm⟩
         have HS4 := Lib.hid (show s32 b a3 e3 = (n4, a4, e4) from hs)
         have HT5 := Lib.hid (HT4.out.moved hm (by have := s32_at (e := e3) HT4.out.r.ha; rw [HS4.out] at this; exact this))
         have y3 := HT5.out.z.cc 3
         have z3 := HT5.out.z.f 3
         have hn4 : n4 ≤ 4294967295 := by have := s32_lt b a3 e3; rw [HS4.out] at this; simp only at this; omega
         have hw4 : IntKind.u32.wrap (n4 : Int) = (n4 : Int) := IntWalk.u32_in _ (by omega)
         have HT6 := Lib.hid (show TI W (W5.setCell ⟨g, 3, none⟩ (.int .u32 (n4 : Int))) v b R V a4 e4 g #[.int .i64 (Form.unfold_ n1), .int .i64 (Form.unfold_ n2), .int .u64 (n3 : Int), .int .u32 (n4 : Int)] from HT5.out.set 3 (.int .u32 (n4 : Int)))
         clear hs hm)
      | (refine wpList_load_row rfl 62 (.tmp 2) rfl _ rfl _ _ _ _ HT6.out.z Try.underlying62 rfl (show _ = some 4 by kernel_rfl) ?_)
      | (refine wpList_store_rowTo rfl 62 (.tmp 1) (.tmp 15) rfl rfl _ #[.int .i64 (Form.unfold_ n1), .int .i64 (Form.unfold_ n2), .int .u64 (n3 : Int), .int .u32 (n4 : Int)] rfl rfl 62 _ HT6.out.t (show _ = some 4 by kernel_rfl) rfl (by simp [Value.oneCell']) ?_))
    have hres := setRow_heap (W5.setCell ⟨g, 3, none⟩ (.int .u32 (n4 : Int))) W.heap.size _ #[.int .i64 (Form.unfold_ n1), .int .i64 (Form.unfold_ n2), .int .u64 (n3 : Int), .int .u32 (n4 : Int)] _ _ HT6.out.t
    refine bodyPost_ret (v := .agg #[.int .i64 (Form.unfold_ n1), .int .i64 (Form.unfold_ n2), .int .u64 (n3 : Int), .int .u32 (n4 : Int)]) (results_cell_row rfl _ _ W.heap.size 62 _ _ _ rfl hres Try.underlying62 rfl (show _ = some 4 by kernel_rfl)) rfl ?_
    have hE : sTr b a e = (⟨Form.unfold_ n1, Form.unfold_ n2, n3, n4⟩, a4, e4) := by
      unfold sTr
      simp only [HS1.out, HS2.out, HS3.out, HS4.out]
    rw [hE]
    exact ⟨rfl, setRow_moved HT6.out.r.rd HT6.out.gr (Nat.le_refl _) HZR.out⟩
end Go.Proofs.Ytoflehlkacofjaa
