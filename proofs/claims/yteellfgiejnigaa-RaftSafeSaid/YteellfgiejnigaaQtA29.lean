/- RaftSafe: G50, V1, U1. -/
import Derived.Test.YteellfgiejnigaaQtA28
import Derived.Maps.OwnOps
import Derived.Maps.OwnSet
import Derived.Test.YteellfgiejnigaaQtA00
import Derived.Test.YteellfgiejnigaaQtA01
import Derived.Test.YteellfgiejnigaaRows
import Derived.Below
import Derived.BigQuiet
import Derived.Deep.QuietTactic
import Derived.Lib.BufferOwn
import Derived.Lib.Hide
import Derived.Maps.AppendAt
import Derived.OpenShut
import Derived.ProofKit
import Derived.WalkKit
import Derived.WalkSmall
import Derived.Test.YteellfgiejnigaaQtA15
import Derived.Test.YteellfgiejnigaaQtA16
namespace Go.Proofs.Yteellfgiejnigaa
open Go.ChangeShapes Go.WideShapes Go.ChangeAt Go.RowKit Go.Maps
set_option linter.unusedVariables false
def ptrR : Rep Nat where
 k := 1
 rel w S x cs := cs = [.pointer (some ⟨x, 0, none⟩)]
 len := by rintro w S x cs rfl; rfl
 one := by
  rintro w S x cs rfl u hu
  rcases List.mem_cons.1 hu with rfl | hu
  · rfl
  · cases hu
 frame := by rintro w w' S x cs h _; exact h
 mono := by rintro w S S' x cs h _; exact h
 keeps := by rintro w w' S x cs h _; exact h
def boolR : Rep Bool where
 k := 1
 rel w S x cs := cs = [.bool x]
 len := by rintro w S x cs rfl; rfl
 one := by
  rintro w S x cs rfl u hu
  rcases List.mem_cons.1 hu with rfl | hu
  · rfl
  · cases hu
 frame := by rintro w w' S x cs h _; exact h
 mono := by rintro w S S' x cs h _; exact h
 keeps := by rintro w w' S x cs h _; exact h
def mailR : Rep RS.Mail where
 k := 12
 rel w S m cs := ∃ ds a, cs = .int .i64 (m.from_ : Int) :: .int .i64 (m.to : Int) :: (ds ++ [.int .i64 a]) ∧ NtAt w S m.x ds
 len := by rintro w S x cs ⟨ds, a, rfl, h⟩; simp [h.len]
 one := by
  rintro w S x cs ⟨ds, a, rfl, h⟩ u hu
  rcases List.mem_cons.1 hu with rfl | hu
  · rfl
  · rcases List.mem_cons.1 hu with rfl | hu
    · rfl
    · rcases List.mem_append.1 hu with hu | hu
      · exact h.one u hu
      · rcases List.mem_cons.1 hu with rfl | hu
        · rfl
        · cases hu
 frame := by rintro w w' S x cs ⟨ds, a, rfl, h⟩ hs; exact ⟨ds, a, rfl, (footed_nt _ _).frame h hs⟩
 mono := by rintro w S S' x cs ⟨ds, a, rfl, h⟩ hs; exact ⟨ds, a, rfl, (footed_nt _ _).mono h hs⟩
 keeps := by rintro w w' S x cs ⟨ds, a, rfl, h⟩ hk; exact ⟨ds, a, rfl, h.keeps hk⟩
structure Wv where
 N : Nat
 T : Nat
 rp : Option Addr
 rn : Nat
 rc : Nat
 up : Option Addr
 un : Nat
 uc : Nat
 mp : Option Addr
 mn : Nat
 mc : Nat
 lp : Nat
 cp : Option Addr
 cn : Nat
 cc : Nat
def Wv.cells (v : Wv) : Array Value := #[.int .i64 (v.N : Int), .int .i64 0, .int .i64 (v.T : Int), .slice v.rp v.rn v.rc, .slice v.up v.un v.uc, .slice v.mp v.mn v.mc, .map (some v.lp), .slice v.cp v.cn v.cc, .int .i64 600]
def LdAt (W : World) (lp : Nat) (L : Nat → Option Nat) : Prop := ∃ D, W.ownsMap (H := Unit) Try.prog 22 (plainElem Try.prog 3) lp (Maps.size D) D ∧ Maps.size D ≤ (List.range 1000000).countP (fun T => (L T).isSome) ∧ ∀ T : Nat, T < 2 ^ 64 → (Maps.has D (.int .u64 (T : Int)) = (L T).isSome) ∧ ∀ i, L T = some i → D.atKey (.int .u64 (T : Int)) (.lit (.int .i64 0)) = .lit (.int .i64 (i : Int))
structure WdAt (own : Own) (W : World) (a : Nat) (p g : Nat → Nat) (x : RS.W) (v : Wv) : Prop where
 n7 : x.n ≤ 7
 nd : ∀ i, i < x.n → NdAt own W i (p i) (g i) (x.r i)
 row : W.heap[a]? = some (.cells v.cells 147)
 oa : own a = 10
 r : RoG ptrR W (fun b => own b = 11) 86 (.slice v.rp v.rn v.rc) ((List.range x.n).map p)
 u : RoG boolR W (fun b => own b = 12) 4 (.slice v.up v.un v.uc) ((List.range x.n).map x.up)
 m : RoG mailR W (fun b => own b = 13) 151 (.slice v.mp v.mn v.mc) x.mails
 c : EsG W (fun b => own b = 14) 53 (.slice v.cp v.cn v.cc) x.cm
 l : LdAt W v.lp x.leaders
 ol : own v.lp = 15
 Tx : v.T = x.T
 Nx : ∀ i, i < x.n → (x.r i).n = v.N
theorem helM : Elem Try.prog 145 151 (.agg #[.int .i64 0, .int .i64 0, .int .u8 0, .int .u64 0, .int .u64 0, .int .u64 0, .int .u64 0, .int .u64 0, .bool false, .slice none 0 0, .slice none 0 0, .int .i64 0]) 12 128 := ⟨Try.underlying145, by kernel_rfl, rfl, by decide⟩
theorem helP : Elem Try.prog 96 86 (.pointer none) 1 8 := ⟨Try.underlying96, by kernel_rfl, rfl, by decide⟩
theorem helB : Elem Try.prog 144 4 (.bool false) 1 1 := ⟨Try.underlying144, by kernel_rfl, rfl, by decide⟩
end Go.Proofs.Yteellfgiejnigaa
namespace Go.Proofs.Yteellfgiejnigaa.Form
def fold (i : Int) : Nat := if 0 ≤ i then 2 * i.toNat else 2 * (-(i + 1)).toNat + 1
def far (i : Int) : Nat := if 0 ≤ i then i.toNat else (-(i + 1)).toNat
def rd : Nat → Nat → List UInt8 → Nat × Nat × Nat
 | _, _, [] => (0, 0, 4)
 | k, acc, x :: t =>
  if (k = 9 ∧ 1 < x.toNat) ∨ 9 < k then (0, 0, 5)
  else if x.toNat < 128 then (if x.toNat = 0 ∧ 0 < k then (0, 0, 5) else (acc + x.toNat % 128 * 128 ^ k, k + 1, 0))
  else rd (k + 1) (acc + x.toNat % 128 * 128 ^ k) t
def small (b : List UInt8) (a : Nat) (e : Int) (most : Nat) : Nat × Nat × Int :=
 if e ≠ 0 then (0, a, e)
 else
  let r := rd 0 0 (b.drop a)
  if r.2.2 = 0 then (if most < r.1 then (0, a, 5) else (r.1, a + r.2.1, 0)) else (0, a, (r.2.2 : Nat))
def done (n a : Nat) (e : Int) : Int := if e = 0 ∧ a < n then 5 else e
def lead : List UInt8 → Nat
 | [] => 0
 | x :: t => if 128 ≤ x.toNat then lead t + 1 else 0
def val : List UInt8 → Nat
 | [] => 0
 | x :: t => x.toNat % 128 + 128 * val t
end Go.Proofs.Yteellfgiejnigaa.Form
namespace Go.Proofs.Yteellfgiejnigaa
open Go.ChangeShapes Go.WideShapes Go.ChangeAt Go.RowKit
set_option linter.unusedVariables false
theorem OB.alloc {w : World} {base : Nat} {e : TypeId} {v : Value} {l : List UInt8} (h : OB w base e v l) (o : Obj) : OB (w.alloc o) base e v l := h.keeps ((Keeps.refl w).alloc o)
def Rdr (w : World) (g : Nat) (v : Value) (at_ : Nat) (e : Int) : Prop := w.heap[g]? = some (.cells #[v, .int .i64 (at_ : Int), .int .i64 e] 171)
theorem PtB.drop {w : World} {p : Option Addr} {c : Nat} {l : List UInt8} (h : PtB w p c l) (a : Nat) (ha : a ≤ l.length) : PtB w (if c = a then p else p.map (·.add (a * 1))) (c - a) (l.drop a) := by
 obtain ⟨h1, h2, h3, h4⟩ := h
 refine ⟨fun e => ?_, by rw [List.length_drop]; omega, by omega, fun hne => ?_⟩
 · split at e
   · omega
   · cases p with
     | none => have := h1 rfl; omega
     | some x => cases e
 · have hlt : a < l.length := by
    rcases Nat.lt_or_ge a l.length with hh | hh
    · exact hh
    · exact absurd (List.drop_eq_nil_of_le hh) hne
   obtain ⟨b, off, rfl, hc⟩ := h4 (by rintro rfl; simp at hlt)
   rw [if_neg (by omega)]
   refine ⟨b, off + a, by simp [Addr.add], fun i hi => ?_⟩
   rw [List.length_drop] at hi
   have := hc (a + i) (by omega)
   rw [← Nat.add_assoc] at this
   rw [this]
   simp [List.getD]
theorem Rdr.lt {w : World} {g : Nat} {v : Value} {a : Nat} {e : Int} (h : Rdr w g v a e) : g < w.heap.size := (Array.getElem?_eq_some_iff.1 h).1
theorem Rdr.set1 {w : World} {g : Nat} {v : Value} {a : Nat} {e : Int} (h : Rdr w g v a e) (a' : Nat) : Rdr (w.setCell ⟨g, 1, none⟩ (.int .i64 (a' : Int))) g v a' e := by
 unfold Rdr at *
 simp only [World.setCell, Array.getElem?_modify, h]; rfl
theorem Rdr.same {w w' : World} {g : Nat} {v : Value} {a : Nat} {e : Int} (h : Rdr w g v a e) (hs : RegT.Same w w') : Rdr w' g v a e := by unfold Rdr; rw [hs.heap]; exact h
theorem Rdr.frozen {w : World} {g : Nat} {v : Value} {a : Nat} {e : Int} (h : Rdr w g v a e) (i : Nat) : w.frozen? ⟨g, i, none⟩ = false := by
 unfold Rdr at h
 simp [World.frozen?, h]
def Off (v : Value) (g : Nat) : Prop := ∀ a n c, v = .slice (some a) n c → n ≠ 0 → a.block ≠ g
theorem RdB.grown {w w' : World} {v : Value} {l : List UInt8} {g : Nat} (h : RdB w v l) (hg : w.grownBy w' (some g)) (ho : Off v g) : RdB w' v l := by
 obtain ⟨p, c, rfl, h1, h2, h3, h4⟩ := h
 refine ⟨p, c, rfl, h1, h2, h3, fun hne => ?_⟩
 obtain ⟨b, off, rfl, hc⟩ := h4 hne
 have := ho _ _ _ rfl (fun e => hne (List.eq_nil_of_length_eq_zero e))
 exact ⟨b, off, rfl, fun i hi => hg.cell (hc i hi) (fun e => this (by cases e; rfl))⟩
theorem RdB.off {w : World} {v : Value} {l : List UInt8} (h : RdB w v l) {g : Nat} (hg : w.heap.size ≤ g) : Off v g := by
 obtain ⟨p, c, rfl, hp⟩ := h
 intro a n c' e hn
 simp only [Value.slice.injEq] at e
 obtain ⟨rfl, rfl, rfl⟩ := e
 obtain ⟨b, off, e, hb, _⟩ := hp.at (k := 0) (by omega)
 cases e
 show b ≠ g
 omega
namespace Form
end Form
def Marked (base : Nat) (l : List UInt8) (v : Value) (w : World) : Prop := ∃ g c, v = .slice (some ⟨g, 0, none⟩) l.length c ∧ OB w base 5 (.slice (some ⟨g, 0, none⟩) (l.length + 1) c) (l ++ [77])
theorem Marked.keeps {base : Nat} {l : List UInt8} {v : Value} {x y : World} (h : Marked base l v x) (hk : Keeps x y) : Marked base l v y := by
 obtain ⟨g, c, e, h⟩ := h
 exact ⟨g, c, e, h.keeps hk⟩
theorem Marked.rd {base : Nat} {l : List UInt8} {v : Value} {w : World} (h : Marked base l v w) : RdB w v l := by
 obtain ⟨g, c, rfl, h⟩ := h
 rw [show l.length + 1 = (l ++ [77]).length by simp] at h
 obtain ⟨p', cap, e, hp⟩ := h.rd
 cases e
 have := hp.take l.length
 rw [List.take_left] at this
 exact ⟨_, _, rfl, this⟩
def Form.flag (f : Bool) : List UInt8 := [if f then 1 else 0]
def Near (w : World) (v v' : Value) : Prop := v'.ownBlock = v.ownBlock ∨ ∃ g, v'.ownBlock = some g ∧ w.heap.size ≤ g
theorem Near.refl (w : World) (v : Value) : Near w v v := .inl rfl
theorem Near.trans {w w1 : World} {v v1 v2 : Value} (h : Near w v v1) (k : Near w1 v1 v2) (hs : w.heap.size ≤ w1.heap.size) : Near w v v2 := by
 rcases k with k | ⟨g, k, hg⟩
 · rcases h with h | ⟨g, h, hg⟩
   · exact .inl (k.trans h)
   · exact .inr ⟨g, k.trans h, hg⟩
 · exact .inr ⟨g, k, Nat.le_trans hs hg⟩
section
variable {P : Program} {ops : Array Oper} {rest : List Oper} {o : Oper} {a : Act} {w : World} {Q : Exit → Act → World → Prop}
end
theorem rangeAt_below {w w' : World} {b o : Nat} {cs : List Value} (h : w.rangeAt b o cs) (hb : b < w.heap.size) (hB : Below w.heap.size w w') : w'.rangeAt b o cs := fun j x hx => (World.cell?_of_block (w := w) (a := ⟨b, o + j, none⟩) (hB.block b hb)).trans (h j x hx)
structure Nt where
 kind : Nat
 term : Nat
 round : Nat
 index : Nat
 at_ : Nat
 commit : Nat
 yes : Bool
 list : List Ent
 data : List UInt8
structure NtA (w : World) (S : Foot) (lv dv : Value) (x : Nt) : Prop where
 l : EsR w S lv x.list
 d : DatA w S dv x.data
 kind : x.kind < 256
 term : x.term < 2 ^ 64
 round : x.round < 2 ^ 64
 index : x.index < 2 ^ 64
 at_ : x.at_ < 2 ^ 64
 commit : x.commit < 2 ^ 64
theorem NtA.keeps {w w' : World} {S : Foot} {lv dv : Value} {x : Nt} (h : NtA w S lv dv x) (hk : Keeps w w') : NtA w' S lv dv x := ⟨h.l.keeps hk, h.d.keeps hk, h.kind, h.term, h.round, h.index, h.at_, h.commit⟩
theorem NtA.frame {w w' : World} {S : Foot} {lv dv : Value} {x : Nt} (h : NtA w S lv dv x) (hs : SameOn S w w') : NtA w' S lv dv x := ⟨h.l.frame hs, h.d.frame hs, h.kind, h.term, h.round, h.index, h.at_, h.commit⟩
theorem NtA.mono {w : World} {S S' : Foot} {lv dv : Value} {x : Nt} (h : NtA w S lv dv x) (hs : ∀ b, b < w.heap.size → S b → S' b) : NtA w S' lv dv x := ⟨h.l.mono hs, h.d.mono hs, h.kind, h.term, h.round, h.index, h.at_, h.commit⟩
end Go.Proofs.Yteellfgiejnigaa
namespace Go.Proofs.Yteellfgiejnigaa
open Go.ChangeShapes Go.WideShapes Go.ChangeAt Go.RowKit Go.Deep
set_option linter.unusedVariables false
section
variable {H : Type} {enc : TypeId × Value → H} {w : World} {base : Nat} {spare : Nat → Bool} {held : Bool}
end
end Go.Proofs.Yteellfgiejnigaa
namespace Go.Proofs.Yteellfgiejnigaa
open Go.ChangeShapes Go.WideShapes Go.ChangeAt Go.RowKit
set_option linter.unusedVariables false
def hasR (k : Nat) : Bool := decide (k = 1 ∨ k = 2)
def hasI (k : Nat) : Bool := decide (k = 1 ∨ k = 3 ∨ k = 5 ∨ k = 6 ∨ k = 7)
def hasA (k : Nat) : Bool := decide (k = 1 ∨ k = 3 ∨ k = 5 ∨ k = 7)
def hasC (k : Nat) : Bool := decide (k = 5)
def hasY (k : Nat) : Bool := decide (k = 2 ∨ k = 4 ∨ k = 6)
def hasL (k : Nat) : Bool := decide (k = 5)
def hasD (k : Nat) : Bool := decide (k = 7)
theorem hz112 : ((Try.prog.info? 112).bind (·.zero)).map Value.cells = some #[.bool false, .bool false, .bool false, .bool false, .bool false, .bool false, .bool false] := by kernel_rfl
set_option maxRecDepth 100000 in
theorem fields1_w (w : World) : Calls Try.prog 68 #[.int .u8 1] w fun r w' => r = .returned (.agg #[.bool true, .bool true, .bool true, .bool false, .bool false, .bool false, .bool false]) ∧ Below w.heap.size w w' := by
 go_enter Try.func68, Try.ntmps68
 go_wp2_with (first
  | (refine wpList_load_row rfl 112 (.tmp 2) rfl _ rfl _ _ _ _ (heap_alloc_new w _) Try.underlying112 rfl (show _ = some 7 by kernel_rfl) ?_)
  | (refine wpList_store_rowTo rfl 112 (.tmp 2) (.tmp 32) rfl rfl _ #[.bool true, .bool true, .bool true, .bool false, .bool false, .bool false, .bool false] rfl rfl 112 #[.bool true, .bool true, .bool true, .bool false, .bool false, .bool false, .bool false] (heap_alloc_new w _) (show _ = some 7 by kernel_rfl) rfl (by simp [Value.oneCell']) ?_))
 refine bodyPost_ret (v := .agg #[.bool true, .bool true, .bool true, .bool false, .bool false, .bool false, .bool false]) (results_cell_row rfl _ _ w.heap.size 112 _ _ _ rfl (setRow_heap _ _ _ _ _ _ (heap_alloc_new w _)) Try.underlying112 rfl (show _ = some 7 by kernel_rfl)) rfl ?_
 exact ⟨rfl, ((Below.refl w.heap.size w).alloc (Nat.le_refl _) _).trans (Below_setRow (Below.refl _ _) (by simp) _)⟩
set_option maxRecDepth 100000 in
theorem fields2_w (w : World) : Calls Try.prog 68 #[.int .u8 2] w fun r w' => r = .returned (.agg #[.bool true, .bool false, .bool false, .bool false, .bool true, .bool false, .bool false]) ∧ Below w.heap.size w w' := by
 go_enter Try.func68, Try.ntmps68
 go_wp2_with (first
  | (refine wpList_load_row rfl 112 (.tmp 2) rfl _ rfl _ _ _ _ (heap_alloc_new w _) Try.underlying112 rfl (show _ = some 7 by kernel_rfl) ?_)
  | (refine wpList_store_rowTo rfl 112 (.tmp 2) (.tmp 32) rfl rfl _ #[.bool true, .bool false, .bool false, .bool false, .bool true, .bool false, .bool false] rfl rfl 112 #[.bool true, .bool false, .bool false, .bool false, .bool true, .bool false, .bool false] (heap_alloc_new w _) (show _ = some 7 by kernel_rfl) rfl (by simp [Value.oneCell']) ?_))
 refine bodyPost_ret (v := .agg #[.bool true, .bool false, .bool false, .bool false, .bool true, .bool false, .bool false]) (results_cell_row rfl _ _ w.heap.size 112 _ _ _ rfl (setRow_heap _ _ _ _ _ _ (heap_alloc_new w _)) Try.underlying112 rfl (show _ = some 7 by kernel_rfl)) rfl ?_
 exact ⟨rfl, ((Below.refl w.heap.size w).alloc (Nat.le_refl _) _).trans (Below_setRow (Below.refl _ _) (by simp) _)⟩
set_option maxRecDepth 100000 in
theorem fields3_w (w : World) : Calls Try.prog 68 #[.int .u8 3] w fun r w' => r = .returned (.agg #[.bool false, .bool true, .bool true, .bool false, .bool false, .bool false, .bool false]) ∧ Below w.heap.size w w' := by
 go_enter Try.func68, Try.ntmps68
 go_wp2_with (first
  | (refine wpList_load_row rfl 112 (.tmp 2) rfl _ rfl _ _ _ _ (heap_alloc_new w _) Try.underlying112 rfl (show _ = some 7 by kernel_rfl) ?_)
  | (refine wpList_store_rowTo rfl 112 (.tmp 2) (.tmp 32) rfl rfl _ #[.bool false, .bool true, .bool true, .bool false, .bool false, .bool false, .bool false] rfl rfl 112 #[.bool false, .bool true, .bool true, .bool false, .bool false, .bool false, .bool false] (heap_alloc_new w _) (show _ = some 7 by kernel_rfl) rfl (by simp [Value.oneCell']) ?_))
 refine bodyPost_ret (v := .agg #[.bool false, .bool true, .bool true, .bool false, .bool false, .bool false, .bool false]) (results_cell_row rfl _ _ w.heap.size 112 _ _ _ rfl (setRow_heap _ _ _ _ _ _ (heap_alloc_new w _)) Try.underlying112 rfl (show _ = some 7 by kernel_rfl)) rfl ?_
 exact ⟨rfl, ((Below.refl w.heap.size w).alloc (Nat.le_refl _) _).trans (Below_setRow (Below.refl _ _) (by simp) _)⟩
set_option maxRecDepth 100000 in
theorem fields4_w (w : World) : Calls Try.prog 68 #[.int .u8 4] w fun r w' => r = .returned (.agg #[.bool false, .bool false, .bool false, .bool false, .bool true, .bool false, .bool false]) ∧ Below w.heap.size w w' := by
 go_enter Try.func68, Try.ntmps68
 go_wp2_with (first
  | (refine wpList_load_row rfl 112 (.tmp 2) rfl _ rfl _ _ _ _ (heap_alloc_new w _) Try.underlying112 rfl (show _ = some 7 by kernel_rfl) ?_)
  | (refine wpList_store_rowTo rfl 112 (.tmp 2) (.tmp 32) rfl rfl _ #[.bool false, .bool false, .bool false, .bool false, .bool true, .bool false, .bool false] rfl rfl 112 #[.bool false, .bool false, .bool false, .bool false, .bool true, .bool false, .bool false] (heap_alloc_new w _) (show _ = some 7 by kernel_rfl) rfl (by simp [Value.oneCell']) ?_))
 refine bodyPost_ret (v := .agg #[.bool false, .bool false, .bool false, .bool false, .bool true, .bool false, .bool false]) (results_cell_row rfl _ _ w.heap.size 112 _ _ _ rfl (setRow_heap _ _ _ _ _ _ (heap_alloc_new w _)) Try.underlying112 rfl (show _ = some 7 by kernel_rfl)) rfl ?_
 exact ⟨rfl, ((Below.refl w.heap.size w).alloc (Nat.le_refl _) _).trans (Below_setRow (Below.refl _ _) (by simp) _)⟩
set_option maxRecDepth 100000 in
theorem fields5_w (w : World) : Calls Try.prog 68 #[.int .u8 5] w fun r w' => r = .returned (.agg #[.bool false, .bool true, .bool true, .bool true, .bool false, .bool true, .bool false]) ∧ Below w.heap.size w w' := by
 go_enter Try.func68, Try.ntmps68
 go_wp2_with (first
  | (refine wpList_load_row rfl 112 (.tmp 2) rfl _ rfl _ _ _ _ (heap_alloc_new w _) Try.underlying112 rfl (show _ = some 7 by kernel_rfl) ?_)
  | (refine wpList_store_rowTo rfl 112 (.tmp 2) (.tmp 32) rfl rfl _ #[.bool false, .bool true, .bool true, .bool true, .bool false, .bool true, .bool false] rfl rfl 112 #[.bool false, .bool true, .bool true, .bool true, .bool false, .bool true, .bool false] (heap_alloc_new w _) (show _ = some 7 by kernel_rfl) rfl (by simp [Value.oneCell']) ?_))
 refine bodyPost_ret (v := .agg #[.bool false, .bool true, .bool true, .bool true, .bool false, .bool true, .bool false]) (results_cell_row rfl _ _ w.heap.size 112 _ _ _ rfl (setRow_heap _ _ _ _ _ _ (heap_alloc_new w _)) Try.underlying112 rfl (show _ = some 7 by kernel_rfl)) rfl ?_
 exact ⟨rfl, ((Below.refl w.heap.size w).alloc (Nat.le_refl _) _).trans (Below_setRow (Below.refl _ _) (by simp) _)⟩
set_option maxRecDepth 100000 in
theorem fields6_w (w : World) : Calls Try.prog 68 #[.int .u8 6] w fun r w' => r = .returned (.agg #[.bool false, .bool true, .bool false, .bool false, .bool true, .bool false, .bool false]) ∧ Below w.heap.size w w' := by
 go_enter Try.func68, Try.ntmps68
 go_wp2_with (first
  | (refine wpList_load_row rfl 112 (.tmp 2) rfl _ rfl _ _ _ _ (heap_alloc_new w _) Try.underlying112 rfl (show _ = some 7 by kernel_rfl) ?_)
  | (refine wpList_store_rowTo rfl 112 (.tmp 2) (.tmp 32) rfl rfl _ #[.bool false, .bool true, .bool false, .bool false, .bool true, .bool false, .bool false] rfl rfl 112 #[.bool false, .bool true, .bool false, .bool false, .bool true, .bool false, .bool false] (heap_alloc_new w _) (show _ = some 7 by kernel_rfl) rfl (by simp [Value.oneCell']) ?_))
 refine bodyPost_ret (v := .agg #[.bool false, .bool true, .bool false, .bool false, .bool true, .bool false, .bool false]) (results_cell_row rfl _ _ w.heap.size 112 _ _ _ rfl (setRow_heap _ _ _ _ _ _ (heap_alloc_new w _)) Try.underlying112 rfl (show _ = some 7 by kernel_rfl)) rfl ?_
 exact ⟨rfl, ((Below.refl w.heap.size w).alloc (Nat.le_refl _) _).trans (Below_setRow (Below.refl _ _) (by simp) _)⟩
set_option maxRecDepth 100000 in
theorem fields7_w (w : World) : Calls Try.prog 68 #[.int .u8 7] w fun r w' => r = .returned (.agg #[.bool false, .bool true, .bool true, .bool false, .bool false, .bool false, .bool true]) ∧ Below w.heap.size w w' := by
 go_enter Try.func68, Try.ntmps68
 go_wp2_with (first
  | (refine wpList_load_row rfl 112 (.tmp 2) rfl _ rfl _ _ _ _ (heap_alloc_new w _) Try.underlying112 rfl (show _ = some 7 by kernel_rfl) ?_)
  | (refine wpList_store_rowTo rfl 112 (.tmp 2) (.tmp 32) rfl rfl _ #[.bool false, .bool true, .bool true, .bool false, .bool false, .bool false, .bool true] rfl rfl 112 #[.bool false, .bool true, .bool true, .bool false, .bool false, .bool false, .bool true] (heap_alloc_new w _) (show _ = some 7 by kernel_rfl) rfl (by simp [Value.oneCell']) ?_))
 refine bodyPost_ret (v := .agg #[.bool false, .bool true, .bool true, .bool false, .bool false, .bool false, .bool true]) (results_cell_row rfl _ _ w.heap.size 112 _ _ _ rfl (setRow_heap _ _ _ _ _ _ (heap_alloc_new w _)) Try.underlying112 rfl (show _ = some 7 by kernel_rfl)) rfl ?_
 exact ⟨rfl, ((Below.refl w.heap.size w).alloc (Nat.le_refl _) _).trans (Below_setRow (Below.refl _ _) (by simp) _)⟩
set_option maxRecDepth 100000 in
theorem may1_w (t : Nat) (d : Value) (l : List UInt8) (w : World) (hd : RdB w d l) :
 Calls Try.prog 93 #[.agg #[.int .u64 (t : Int), d]] w fun r w' => r = .returned (.bool (decide (3000 < l.length))) ∧ Below w.heap.size w w' := by
 obtain ⟨p, c, rfl, _⟩ := hd
 have e : decide ((3000 : Int) < (l.length : Int)) = decide (3000 < l.length) := decide_eq_decide.2 (by omega)
 have HB := zh ((Below.refl w.heap.size w).alloc (Nat.le_refl _) (.cells #[.int .u64 (t : Int), .slice p l.length c] 53))
 go_enter Try.func93, Try.ntmps93
 go_wp2
 go_ret
 refine ⟨?_, HB.out⟩
 first | rfl | (simp [e])
def anyLong (es : List Ent) : Bool := es.any fun e => decide (3000 < e.2.length)
set_option maxRecDepth 100000 in
set_option maxHeartbeats 3200000 in
theorem indexFunc_w (R1 : Foot) (va : Value) (es : List Ent) (w : World) (ha : EsR w R1 va es) (hn : es.length ≤ 1000000) :
 Calls Try.prog 128 #[va, .func (.func 93) #[] #[]] w fun r w' => (∃ z : Int, r = .returned (.int .i64 z) ∧ (decide (0 ≤ z)) = anyLong es) ∧ Below w.heap.size w w' := by
 obtain ⟨pa, ca, rfl⟩ := ha.len_form
 have Ha := zh ha
 clear ha
 go_enter Try.func128, Try.ntmps128
 go_wp2
 go_loopw [8] (fun i wr => ∃ k : Nat, k ≤ es.length ∧ i = .int .i64 (k : Int) ∧ Hid (anyLong (es.take k) = false) ∧ Hid (Below w.heap.size w wr)) (fun i _ => es.length - (intOf i).toNat)
 case atStart => exact ⟨0, Nat.zero_le _, rfl, zh rfl, zh (Below.refl _ _)⟩
 case round =>
  obtain ⟨k, hk, rfl, HT, HB⟩ := hrel
  by_cases hlt : k < es.length
  · obtain ⟨b1, o1, c1, d1, hv1, _, hb1, q1, q2, q3, _⟩ := Ha.out.elemF k hlt
    cases hv1
    have hra1 : w.rangeAt b1 (o1 + k * 2) [.int .u64 ((es[k].1 : Nat) : Int), d1] := fun j x hx => by
     match j, hx with
     | 0, hx => cases hx; exact q1
     | 1, hx => cases hx; exact q2
    have Hse := zh (show es.take (k + 1) = es.take k ++ [es[k]] by rw [List.take_succ_eq_append_getElem hlt])
    have Hyes := zh (fun (h : decide (3000 < es[k].2.length) = true) => (show anyLong es = true from by
     unfold anyLong
     rw [List.any_eq_true]
     exact ⟨es[k], List.getElem_mem _, h⟩))
    have Hno := zh (fun (h : decide (3000 < es[k].2.length) = false) => (show anyLong (es.take (k + 1)) = false from by
     rw [Hse.out]
     unfold anyLong
     rw [List.any_append]
     have := HT.out
     unfold anyLong at this
     rw [this]
     simp [h]))
    generalize es[k].1 = t1 at *
    generalize es[k].2 = l1 at *
    obtain ⟨dp1, dc1, rfl⟩ : ∃ p c, d1 = .slice p l1.length c := by obtain ⟨p, c, h1, _⟩ := q3.rd; exact ⟨p, c, h1⟩
    have Hra1 := zh (rangeAt_below hra1 hb1 HB.out)
    have HC := zh (may1_w t1 _ l1 wr (q3.rd.keeps HB.out.block))
    clear q1 q2 q3 hra1 hb1
    cases hs : decide (3000 < l1.length) with
    | false =>
     rw [hs] at HC
     have Hn2 := zh (Hno.out hs)
     clear hs
     go_wp2_with (first
      | (refine wpList_load_mid rfl 53 (.tmp 14) rfl _ _ rfl [.int .u64 (t1 : Int), .slice dp1 l1.length dc1] _ Hra1.out Try.underlying53 rfl (show _ = some 2 by kernel_rfl) ?_)
      | (go_at_call 93; refine (HC.out).mono ?_; rintro r w5 ⟨rfl, hB⟩; have HB5 := zh (HB.out.trans (hB.mono HB.out.size)); clear hB HC))
     go_roundw
     case rel => exact ⟨k + 1, by omega, by go_num, Hn2, HB5⟩
     case measure => simp [intOf]; omega
    | true =>
     rw [hs] at HC
     have Hy2 := zh (Hyes.out hs)
     clear hs
     go_wp2_with (first
      | (refine wpList_load_mid rfl 53 (.tmp 14) rfl _ _ rfl [.int .u64 (t1 : Int), .slice dp1 l1.length dc1] _ Hra1.out Try.underlying53 rfl (show _ = some 2 by kernel_rfl) ?_)
      | (go_at_call 93; refine (HC.out).mono ?_; rintro r w5 ⟨rfl, hB⟩; have HB5 := zh (HB.out.trans (hB.mono HB.out.size)); clear hB HC))
     go_ret
     exact ⟨⟨_, rfl, by rw [Hy2.out]; simp⟩, HB5.out⟩
  · have hk2 : k = es.length := by omega
    have h1 := HT.out
    rw [hk2, List.take_length] at h1
    have H1 := zh h1
    clear h1
    go_wp2
    go_ret
    exact ⟨⟨_, rfl, by rw [H1.out]; rfl⟩, HB.out⟩
set_option maxRecDepth 100000 in
theorem containsFunc_w (R1 : Foot) (va : Value) (es : List Ent) (w : World) (ha : EsR w R1 va es) (hn : es.length ≤ 1000000) :
 Calls Try.prog 92 #[va, .func (.func 93) #[] #[]] w fun r w' => r = .returned (.bool (anyLong es)) ∧ Below w.heap.size w w' := by
 have HC := zh (indexFunc_w R1 va es w ha hn)
 obtain ⟨pa, ca, rfl⟩ := ha.len_form
 clear ha
 go_enter Try.func92, Try.ntmps92
 go_wp2_with (go_at_call 128; refine (HC.out).mono ?_; rintro r w5 ⟨⟨z, rfl, hz⟩, hB⟩; have HB5 := zh hB; have Hz := zh hz; clear hB HC hz)
 go_ret
 exact ⟨by rw [← Hz.out]; first | rfl | simp, HB5.out⟩
def mayN (x : Nt) : Bool := decide (1 ≤ x.kind ∧ x.kind ≤ 7 ∧ (hasR x.kind = false → x.round = 0) ∧ (hasI x.kind = false → x.index = 0) ∧ (hasA x.kind = false → x.at_ = 0) ∧ (hasC x.kind = false → x.commit = 0) ∧ x.index ≤ 4611686018427387904 ∧ x.commit ≤ 4611686018427387904 ∧
 (hasY x.kind = false → x.yes = false) ∧ (hasL x.kind = false → x.list.length = 0) ∧ (hasD x.kind = false → x.data.length = 0) ∧ x.list.length ≤ 16 ∧ x.data.length ≤ 524288 ∧ anyLong x.list = false)
theorem alloc_setRow (w : World) (cs ds : Array Value) (t : TypeId) : (w.alloc (.cells cs t)).setRow w.heap.size ds = w.alloc (.cells ds t) := by
 have hb : (w.alloc (.cells cs t)).heap[w.heap.size]? = some (.cells cs t) := heap_alloc_new w _
 unfold World.setRow
 simp only [World.alloc]
 congr 1
 apply Array.ext_getElem?
 intro i
 simp only [Array.getElem?_modify, Array.getElem?_push]
 split
 · rename_i h; subst h; simp
 · rename_i h
   split
   · rename_i h2; exact absurd h2.symm h
   · rfl
end Go.Proofs.Yteellfgiejnigaa
