/- RaftSafe: G2, R1, R2, G3, G4. -/
import Derived.Test.YteellfgiejnigaaQtA02
import Derived.Test.YteellfgiejnigaaQtA10
import Derived.Test.YteellfgiejnigaaQtA00
import Derived.Test.YteellfgiejnigaaRows
import Derived.Below
import Derived.Laws.Rows
import Derived.Lib.Hide
import Derived.Test.YteellfgiejnigaaQtA01
import Derived.StillTailTactics
import Derived.BigQuiet
import Derived.Deep.MidRow
import Derived.Deep.QuietTactic
namespace Go.Proofs.Yteellfgiejnigaa
open Go.ChangeShapes Go.WideShapes Go.ChangeAt Go.RowKit
set_option linter.unusedVariables false
abbrev Own := Nat → Nat
def Ft (own : Own) (l x : Nat) : Foot := fun b => own b = l ∧ b ≠ x
def ext (own : Own) (n l : Nat) : Own := fun b => if b < n then own b else l
theorem ext_lt {own : Own} {n l b : Nat} (h : b < n) : ext own n l b = own b := if_pos h
theorem ext_ge {own : Own} {n l b : Nat} (h : n ≤ b) : ext own n l b = l := if_neg (Nat.not_lt.2 h)
structure Mv (L : Nat → Prop) (own : Own) (w : World) (own' : Own) (w' : World) : Prop where
 t : Touch (fun b => L (own b)) w w'
 lab : ∀ b, b < w.heap.size → own' b = own b
theorem Mv.refl (L : Nat → Prop) (own : Own) (w : World) : Mv L own w own w := ⟨Touch.refl _ _, fun _ _ => rfl⟩
theorem Mv.trans {L : Nat → Prop} {own own1 own2 : Own} {w w1 w2 : World} (h : Mv L own w own1 w1) (k : Mv L own1 w1 own2 w2) : Mv L own w own2 w2 :=
 ⟨h.t.trans k.t fun b hb e => by rw [h.lab b hb] at e; exact e, fun b hb => (k.lab b (Nat.lt_of_lt_of_le hb h.t.size)).trans (h.lab b hb)⟩
theorem Mv.mono {L L' : Nat → Prop} {own own' : Own} {w w' : World} (h : Mv L own w own' w') (hL : ∀ l, L l → L' l) : Mv L' own w own' w' := ⟨h.t.mono fun b _ e => hL _ e, h.lab⟩
theorem Mv.of_touch {L : Nat → Prop} {S : Foot} {own : Own} {w w' : World} (h : Touch S w w') (hS : ∀ b, b < w.heap.size → S b → L (own b)) (l : Nat) : Mv L own w (ext own w.heap.size l) w' := ⟨h.mono hS, fun b hb => ext_lt hb⟩
theorem Mv.of_below {L : Nat → Prop} {own : Own} {w w' : World} (h : Below w.heap.size w w') (l : Nat) : Mv L own w (ext own w.heap.size l) w' := ⟨Touch.of_below h, fun b hb => ext_lt hb⟩
theorem Mv.set {L : Nat → Prop} {own : Own} {w : World} {a : Addr} (h : L (own a.block)) (v : Value) : Mv L own w own (w.setCell a v) :=
 ⟨⟨rfl, rfl, rfl, by simp [World.setCell], fun b hb hn => Below.heap_setCell _ _ _ _ (fun e => hn (by subst e; exact h))⟩, fun _ _ => rfl⟩
theorem Mv.same {L : Nat → Prop} {own own' : Own} {w w' : World} (h : Mv L own w own' w') {b : Nat} (hb : b < w.heap.size) (hn : ¬ L (own b)) : w'.heap[b]? = w.heap[b]? := h.t.block b hb hn
structure Footed (P : World → Foot → Prop) : Prop where
 mono : ∀ {w : World} {S S' : Foot}, P w S → (∀ b, b < w.heap.size → S b → S' b) → P w S'
 frame : ∀ {w w' : World} {S : Foot}, P w S → SameOn S w w' → P w' S
theorem Footed.move {P : World → Foot → Prop} (hP : Footed P) {S S' : Foot} {w w' : World} (h : P w S) (hl : ∀ b, b < w.heap.size → S b → S' b ∧ w'.heap[b]? = w.heap[b]?) : P w' S' := by
 have h1 := hP.mono (S' := fun b => S b ∧ b < w.heap.size) h fun b hb e => ⟨e, hb⟩
 exact hP.mono (hP.frame h1 fun b hb => (hl b hb.2 hb.1).2) fun b _ e => (hl b e.2 e.1).1
theorem footed_tk (g B T : Nat) (v : Value) (es : List Ent) : Footed (fun w S => TkAt w S g B T v es) := ⟨fun h => h.mono, fun h => h.frame⟩
theorem footed_esr (v : Value) (es : List Ent) : Footed (fun w S => EsR w S v es) := ⟨fun h => h.mono, fun h => h.frame⟩
theorem footed_dat (v : Value) (l : List UInt8) : Footed (fun w S => DatA w S v l) := ⟨fun h => h.mono, fun h => h.frame⟩
theorem footed_rog {α : Type} (R : Rep α) (e : TypeId) (v : Value) (l : List α) : Footed (fun w S => RoG R w S e v l) := ⟨fun h => h.mono, fun h => h.frame⟩
theorem datA_nil (w : World) (S : Foot) (p : Option Addr) (c : Nat) (h : PtB w p c []) : DatA w S (.slice p 0 c) [] :=
 ⟨⟨p, c, rfl, h⟩, fun _ _ e => absurd rfl e, fun _ _ e => absurd rfl e, fun b off c e i hi => absurd hi (Nat.not_lt_zero i)⟩
def ntcR (x : RS.Nt) (lv dv : Value) : List Value := [.int .u8 (x.kind : Int), .int .u64 (x.term : Int), .int .u64 (x.round : Int), .int .u64 (x.index : Int), .int .u64 (x.at_ : Int), .int .u64 (x.commit : Int), .bool x.yes, lv, dv]
def NtAt (w : World) (S : Foot) (x : RS.Nt) (cs : List Value) : Prop := ∃ lv dv, cs = ntcR x lv dv ∧ EsR w S lv x.list ∧ DatA w S dv []
theorem NtAt.len {w : World} {S : Foot} {x : RS.Nt} {cs : List Value} (h : NtAt w S x cs) : cs.length = 9 := by obtain ⟨lv, dv, rfl, _, _⟩ := h; rfl
theorem NtAt.one {w : World} {S : Foot} {x : RS.Nt} {cs : List Value} (h : NtAt w S x cs) : ∀ u ∈ cs, u.oneCell' = true := by
 obtain ⟨lv, dv, rfl, h1, h2⟩ := h
 obtain ⟨p, c, xs, rfl, _⟩ := h1
 obtain ⟨p2, c2, rfl, _⟩ := h2.rd
 intro u hu
 simp only [ntcR, List.mem_cons, List.not_mem_nil, or_false] at hu
 rcases hu with rfl | rfl | rfl | rfl | rfl | rfl | rfl | rfl | rfl <;> rfl
theorem footed_nt (x : RS.Nt) (cs : List Value) : Footed (fun w S => NtAt w S x cs) :=
 ⟨fun ⟨lv, dv, e, h1, h2⟩ hs => ⟨lv, dv, e, h1.mono hs, h2.mono hs⟩, fun ⟨lv, dv, e, h1, h2⟩ hs => ⟨lv, dv, e, h1.frame hs, h2.frame hs⟩⟩
theorem NtAt.keeps {w w' : World} {S : Foot} {x : RS.Nt} {cs : List Value} (h : NtAt w S x cs) (hk : Keeps w w') : NtAt w' S x cs := by
 obtain ⟨lv, dv, e, h1, h2⟩ := h; exact ⟨lv, dv, e, h1.keeps hk, h2.keeps hk⟩
def sentR : Rep (Nat × RS.Nt) where
 k := 10
 rel w S x cs := ∃ ds, cs = .int .i64 (x.1 : Int) :: ds ∧ NtAt w S x.2 ds
 len := by rintro w S x cs ⟨ds, rfl, h⟩; rw [List.length_cons, h.len]
 one := by
  rintro w S x cs ⟨ds, rfl, h⟩ u hu
  rcases List.mem_cons.1 hu with rfl | hu
  · rfl
  · exact h.one u hu
 frame := by rintro w w' S x cs ⟨ds, rfl, h⟩ hs; exact ⟨ds, rfl, (footed_nt _ _).frame h hs⟩
 mono := by rintro w S S' x cs ⟨ds, rfl, h⟩ hs; exact ⟨ds, rfl, (footed_nt _ _).mono h hs⟩
 keeps := by rintro w w' S x cs ⟨ds, rfl, h⟩ hk; exact ⟨ds, rfl, h.keeps hk⟩
def intR : Rep Nat where
 k := 1
 rel w S x cs := cs = [.int .i64 (x : Int)]
 len := by rintro w S x cs rfl; rfl
 one := by
  rintro w S x cs rfl u hu
  rcases List.mem_cons.1 hu with rfl | hu
  · rfl
  · cases hu
 frame := by rintro w w' S x cs h _; exact h
 mono := by rintro w S S' x cs h _; exact h
 keeps := by rintro w w' S x cs h _; exact h
def rfc (r : RS.Rf) (g : Nat) : Array Value := #[.int .i64 (r.n : Int), .int .i64 (r.id : Int), .int .i64 (r.T : Int), .int .u64 (r.term : Int), .int .i64 r.who, .pointer (some ⟨g, 0, none⟩), .int .u64 (r.commit : Int), .int .u8 (r.role : Int), .int .i64 r.leader, .int .i64 r.left, .int .i64 r.quiet, .int .i64 r.beat, .int .u64 (r.round : Int),
 .bool (r.sides 0), .bool (r.sides 1), .bool (r.sides 2), .bool (r.sides 3), .bool (r.sides 4), .bool (r.sides 5), .bool (r.sides 6),
 .int .u64 (r.next 0 : Int), .int .u64 (r.mt 0 : Int), .int .u64 (r.next 1 : Int), .int .u64 (r.mt 1 : Int), .int .u64 (r.next 2 : Int), .int .u64 (r.mt 2 : Int), .int .u64 (r.next 3 : Int), .int .u64 (r.mt 3 : Int), .int .u64 (r.next 4 : Int), .int .u64 (r.mt 4 : Int), .int .u64 (r.next 5 : Int), .int .u64 (r.mt 5 : Int), .int .u64 (r.next 6 : Int), .int .u64 (r.mt 6 : Int)]
structure NdAt (own : Own) (w : World) (i p g : Nat) (r : RS.Rf) : Prop where
 hi : i < 7
 rp : w.heap[p]? = some (.cells (rfc r g) 95)
 op : own p = i
 tk : ∃ v, TkAt w (Ft own i p) g r.base r.bt v r.es
theorem NdAt.lt {own : Own} {w : World} {i p g : Nat} {r : RS.Rf} (h : NdAt own w i p g r) : p < w.heap.size := (Array.getElem?_eq_some_iff.1 h.rp).1
theorem NdAt.move {own own' : Own} {w w' : World} {i p g : Nat} {r : RS.Rf} (h : NdAt own w i p g r) (hl : ∀ b, b < w.heap.size → own b = i → own' b = i ∧ w'.heap[b]? = w.heap[b]?) : NdAt own' w' i p g r := by
 obtain ⟨v, ht⟩ := h.tk
 have hp := hl p h.lt h.op
 exact ⟨h.hi, hp.2.trans h.rp, hp.1, v, (footed_tk _ _ _ _ _).move ht fun b hb e => ⟨⟨(hl b hb e.1).1, e.2⟩, (hl b hb e.1).2⟩⟩
theorem NdAt.mv {L : Nat → Prop} {own own' : Own} {w w' : World} {i p g : Nat} {r : RS.Rf} (h : NdAt own w i p g r) (m : Mv L own w own' w') (hi : ¬ L i) : NdAt own' w' i p g r :=
 h.move fun b hb e => ⟨(m.lab b hb).trans e, m.same hb (by rw [e]; exact hi)⟩
theorem NdAt.c {own : Own} {w : World} {i p g : Nat} {r : RS.Rf} (h : NdAt own w i p g r) (k : Nat) : w.cell? ⟨p, k, none⟩ = (rfc r g)[k]? := cell_of_row _ _ _ _ _ _ h.rp
theorem NdAt.frozen {own : Own} {w : World} {i p g : Nat} {r : RS.Rf} (h : NdAt own w i p g r) (k : Nat) : w.frozen? ⟨p, k, none⟩ = false := by
 have h := h.rp
 simp [World.frozen?, h]
theorem NdAt.set {own : Own} {w : World} {i p g : Nat} {r : RS.Rf} (h : NdAt own w i p g r) (k : Nat) (v : Value) (r' : RS.Rf) (hc : (rfc r g).setIfInBounds k v = rfc r' g) (hb : r'.base = r.base) (ht : r'.bt = r.bt) (he : r'.es = r.es) : NdAt own (w.setCell ⟨p, k, none⟩ v) i p g r' := by
 obtain ⟨u, htk⟩ := h.tk
 refine ⟨h.hi, ?_, h.op, u, ?_⟩
 · have hp := h.rp
   simp only [World.setCell, Array.getElem?_modify, hp, if_true, Option.map_some]
   rw [← hc]; rfl
 · rw [hb, ht, he]
   exact htk.frame fun b hb => Below.heap_setCell _ _ _ _ hb.2
structure Ov where
 vo : Bool
 sh : Bool
 f0 : Int
 f1 : Int
 f2 : Int
 f3 : Int
 f4 : Int
 f5 : Int
 f6 : Bool
 f7p : Option Addr
 f7n : Nat
 f7c : Nat
 f8p : Option Addr
 f8n : Nat
 f8c : Nat
 cu : Bool
 ke : Int
 ap : Option Addr
 an : Nat
 ac : Nat
 sp : Option Addr
 sn : Nat
 sc : Nat
 np : Option Addr
 nn : Nat
 nc : Nat
def Ov.zero : Ov := ⟨false, false, 0, 0, 0, 0, 0, 0, false, none, 0, 0, none, 0, 0, false, 0, none, 0, 0, none, 0, 0, none, 0, 0⟩
def Ov.cells (x : Ov) : Array Value := #[.bool x.vo, .bool x.sh, .int .u8 x.f0, .int .u64 x.f1, .int .u64 x.f2, .int .u64 x.f3, .int .u64 x.f4, .int .u64 x.f5, .bool x.f6, .slice x.f7p x.f7n x.f7c, .slice x.f8p x.f8n x.f8c, .bool x.cu, .int .u64 x.ke, .slice x.ap x.an x.ac, .slice x.sp x.sn x.sc, .slice x.np x.nn x.nc]
def stc (p : Nat) (x : Ov) (t0 : Nat) (who0 : Int) : Array Value := #[.pointer (some ⟨p, 0, none⟩), .bool x.vo, .bool x.sh, .int .u8 x.f0, .int .u64 x.f1, .int .u64 x.f2, .int .u64 x.f3, .int .u64 x.f4, .int .u64 x.f5, .bool x.f6, .slice x.f7p x.f7n x.f7c, .slice x.f8p x.f8n x.f8c, .bool x.cu, .int .u64 x.ke, .slice x.ap x.an x.ac, .slice x.sp x.sn x.sc, .slice x.np x.nn x.nc, .int .u64 (t0 : Int), .int .i64 who0]
def OffS (S : Foot) (u : Value) : Foot := fun b => S b ∧ u.ownBlock ≠ some b
structure OvAt (w : World) (S : Foot) (x : Ov) (o : RS.Ou) : Prop where
 an : x.an = o.add.length
 se : RoG sentR w (OffS S (.slice x.np x.nn x.nc)) 164 (.slice x.sp x.sn x.sc) o.send
 ne : RoG intR w S 3 (.slice x.np x.nn x.nc) o.need
theorem footed_ov (x : Ov) (o : RS.Ou) : Footed (fun w S => OvAt w S x o) := ⟨fun h hs => ⟨h.an, h.se.mono fun b hb e => ⟨hs b hb e.1, e.2⟩, h.ne.mono hs⟩, fun h hs => ⟨h.an, h.se.frame fun b e => hs b e.1, h.ne.frame hs⟩⟩
structure StAt (own : Own) (w : World) (i p q g t0 : Nat) (who0 : Int) (r : RS.Rf) (x : Ov) (o : RS.Ou) : Prop where
 nd : NdAt own w i p g r
 rq : w.heap[q]? = some (.cells (stc p x t0 who0) 176)
 oq : own q = 7
 ov : OvAt w (Ft own 7 q) x o
section
variable {own own' : Own} {w w' : World} {i p q g t0 : Nat} {who0 : Int} {r : RS.Rf} {x : Ov} {o : RS.Ou}
theorem StAt.lt (h : StAt own w i p q g t0 who0 r x o) : q < w.heap.size := (Array.getElem?_eq_some_iff.1 h.rq).1
theorem StAt.ne (h : StAt own w i p q g t0 who0 r x o) : p ≠ q := fun e => by
 have h1 := h.nd.op
 have h2 := h.oq
 have h3 := h.nd.hi
 rw [e, h2] at h1
 omega
theorem StAt.c (h : StAt own w i p q g t0 who0 r x o) (k : Nat) : w.cell? ⟨q, k, none⟩ = (stc p x t0 who0)[k]? := cell_of_row _ _ _ _ _ _ h.rq
theorem StAt.frozen (h : StAt own w i p q g t0 who0 r x o) (k : Nat) : w.frozen? ⟨q, k, none⟩ = false := by
 have h := h.rq
 simp [World.frozen?, h]
theorem StAt.mv {L : Nat → Prop} (h : StAt own w i p q g t0 who0 r x o) (m : Mv L own w own' w') (hi : ¬ L i) (h7 : ¬ L 7) : StAt own' w' i p q g t0 who0 r x o :=
 ⟨h.nd.mv m hi, (m.same h.lt (by rw [h.oq]; exact h7)).trans h.rq, (m.lab q h.lt).trans h.oq,
  (footed_ov _ _).move h.ov fun b hb e => ⟨⟨(m.lab b hb).trans e.1, e.2⟩, m.same hb (by rw [e.1]; exact h7)⟩⟩
theorem StAt.setp (h : StAt own w i p q g t0 who0 r x o) (k : Nat) (v : Value) (r' : RS.Rf) (hc : (rfc r g).setIfInBounds k v = rfc r' g) (hb : r'.base = r.base) (ht : r'.bt = r.bt) (he : r'.es = r.es) : StAt own (w.setCell ⟨p, k, none⟩ v) i p q g t0 who0 r' x o := by
 have hpq := h.ne
 have hop := h.nd.op
 have hi := h.nd.hi
 refine ⟨h.nd.set k v r' hc hb ht he, (Below.heap_setCell _ _ _ _ (Ne.symm hpq)).trans h.rq, h.oq, (footed_ov _ _).frame h.ov fun b hb => Below.heap_setCell _ _ _ _ fun e => ?_⟩
 have e2 : b = p := e
 have := hb.1
 rw [e2, hop] at this
 omega
theorem StAt.setq (h : StAt own w i p q g t0 who0 r x o) (k : Nat) (v : Value) (x' : Ov) (o' : RS.Ou) (hc : (stc p x t0 who0).setIfInBounds k v = stc p x' t0 who0) (ho : OvAt w (Ft own 7 q) x' o') : StAt own (w.setCell ⟨q, k, none⟩ v) i p q g t0 who0 r x' o' := by
 have hpq := h.ne
 have hi := h.nd.hi
 have hoq := h.oq
 refine ⟨h.nd.move fun b hb e => ⟨e, Below.heap_setCell _ _ _ _ fun e2 => ?_⟩, ?_, h.oq, (footed_ov _ _).frame ho fun b hb => Below.heap_setCell _ _ _ _ hb.2⟩
 · have e3 : b = q := e2
   rw [e3, hoq] at e
   omega
 · have hq := h.rq
   simp only [World.setCell, Array.getElem?_modify, hq, if_true, Option.map_some]
   rw [← hc]; rfl
theorem StAt.of_nd {r' : RS.Rf} {g' : Nat} (h : StAt own w i p q g t0 who0 r x o) (n : NdAt own' w' i p g' r') (m : Mv (fun l => l = i) own w own' w') : StAt own' w' i p q g' t0 who0 r' x o := by
 have h7 : ¬ (7 = i) := by have := h.nd.hi; omega
 exact ⟨n, (m.same h.lt (by rw [h.oq]; exact h7)).trans h.rq, (m.lab q h.lt).trans h.oq, (footed_ov _ _).move h.ov fun b hb e => ⟨⟨(m.lab b hb).trans e.1, e.2⟩, m.same hb (by rw [e.1]; exact h7)⟩⟩
theorem drew_heap {W : World} (hR : RegT.Same w.drew W) : W.heap = w.heap := hR.heap
theorem Mv.of_same {L : Nat → Prop} {W : World} (hR : RegT.Same w.drew W) : Mv L own w own W :=
 ⟨⟨hR.os, hR.tape, hR.output, by rw [drew_heap hR]; exact Nat.le_refl _, fun b _ _ => by rw [drew_heap hR]⟩, fun _ _ => rfl⟩
theorem NdAt.same {W : World} (h : NdAt own w i p g r) (hR : RegT.Same w.drew W) : NdAt own W i p g r := h.mv (L := fun _ => False) (Mv.of_same hR) id
theorem StAt.same {W : World} (h : StAt own w i p q g t0 who0 r x o) (hR : RegT.Same w.drew W) : StAt own W i p q g t0 who0 r x o := h.mv (L := fun _ => False) (Mv.of_same hR) id id
end
def setMany (C : Array Value) (o : Nat) : List Value → Array Value
 | [] => C
 | v :: vs => setMany (C.setIfInBounds o v) (o + 1) vs
theorem heap_setCells {b : Nat} {t : TypeId} {fr : Nat × Nat} : ∀ (vs : List Value) (o : Nat) (C : Array Value) (w : World), w.heap[b]? = some (.cells C t fr) → (w.setCells b o vs).heap[b]? = some (.cells (setMany C o vs) t fr)
 | [], _, _, _, h => h
 | v :: vs, o, C, w, h => by
  rw [World.setCells, setMany]
  refine heap_setCells vs (o + 1) _ _ ?_
  simp only [World.setCell, Array.getElem?_modify, h, if_true, Option.map_some]
  rfl
theorem other_setCells {b : Nat} : ∀ (vs : List Value) (o : Nat) (w : World) (k : Nat), k ≠ b → (w.setCells b o vs).heap[k]? = w.heap[k]?
 | [], _, _, _, _ => rfl
 | v :: vs, o, w, k, h => by
  rw [World.setCells, other_setCells vs (o + 1) _ k h]
  exact Below.heap_setCell _ _ _ _ h
theorem Mv.sets {L : Nat → Prop} {own : Own} {w : World} {b : Nat} (h : L (own b)) (o : Nat) (vs : List Value) : Mv L own w own (w.setCells b o vs) := by
 induction vs generalizing o w with
 | nil => exact Mv.refl _ _ _
 | cons v vs ih => rw [World.setCells]; exact (Mv.set (a := ⟨b, o, none⟩) h v).trans (ih (o + 1))
theorem NdAt.sets {own : Own} {w : World} {i p g : Nat} {r : RS.Rf} (h : NdAt own w i p g r) (o : Nat) (vs : List Value) (r' : RS.Rf) (hc : setMany (rfc r g) o vs = rfc r' g) (hb : r'.base = r.base) (ht : r'.bt = r.bt) (he : r'.es = r.es) : NdAt own (w.setCells p o vs) i p g r' := by
 obtain ⟨u, htk⟩ := h.tk
 refine ⟨h.hi, by rw [← hc]; exact heap_setCells vs o _ _ h.rp, h.op, u, ?_⟩
 rw [hb, ht, he]
 exact htk.frame fun b hb => other_setCells vs o w b hb.2
theorem rfc_side (r : RS.Rf) (g : Nat) {f : Nat} (hf : f < 7) : (rfc r g)[13 + f]? = some (.bool (r.sides f)) := by
 rcases f with _ | _ | _ | _ | _ | _ | _ | f
 all_goals first | rfl | omega
theorem rfc_next (r : RS.Rf) (g : Nat) {f : Nat} (hf : f < 7) : (rfc r g)[20 + f * 2]? = some (.int .u64 (r.next f : Int)) := by
 rcases f with _ | _ | _ | _ | _ | _ | _ | f
 all_goals first | rfl | omega
theorem rfc_mt (r : RS.Rf) (g : Nat) {f : Nat} (hf : f < 7) : (rfc r g)[20 + f * 2 + 1]? = some (.int .u64 (r.mt f : Int)) := by
 rcases f with _ | _ | _ | _ | _ | _ | _ | f
 all_goals first | rfl | omega
theorem set_side (r : RS.Rf) (g : Nat) {f : Nat} (hf : f < 7) (b : Bool) : (rfc r g).setIfInBounds (13 + f) (.bool b) = rfc { r with sides := fun i => if i = f then b else r.sides i } g := by
 rcases f with _ | _ | _ | _ | _ | _ | _ | f
 all_goals first | rfl | omega
theorem set_next (r : RS.Rf) (g : Nat) {f : Nat} (hf : f < 7) (n : Nat) : (rfc r g).setIfInBounds (20 + f * 2) (.int .u64 (n : Int)) = rfc { r with next := fun i => if i = f then n else r.next i } g := by
 rcases f with _ | _ | _ | _ | _ | _ | _ | f
 all_goals first | rfl | omega
theorem set_mt (r : RS.Rf) (g : Nat) {f : Nat} (hf : f < 7) (n : Nat) : (rfc r g).setIfInBounds (20 + f * 2 + 1) (.int .u64 (n : Int)) = rfc { r with mt := fun i => if i = f then n else r.mt i } g := by
 rcases f with _ | _ | _ | _ | _ | _ | _ | f
 all_goals first | rfl | omega
def NoR (w : World) (v : Value) : Prop := v = .pointer none ∨ ∃ p cs, v = .pointer (some ⟨p, 0, none⟩) ∧ w.heap[p]? = some (.cells cs 95) ∧ cs[5]? = some (.pointer none)
theorem NoR.below {w w' : World} {v : Value} (h : NoR w v) (hB : Below w.heap.size w w') : NoR w' v := by
 rcases h with rfl | ⟨p, cs, rfl, hc, h5⟩
 · exact .inl rfl
 · exact .inr ⟨p, cs, rfl, by rw [hB.block p (Array.getElem?_eq_some_iff.1 hc).1]; exact hc, h5⟩
theorem results_mid_row {fn : Func} {t p u : Tmp} {ty : TypeId} (h : fn.results = #[.tmp t, .cell p ty, .tmp u]) (tmps : Array Value) (w : World) (g : Nat) (tt : TypeId) (cs : Array Value) (fr : Nat × Nat) (d : TypeDesc)
 (hp : tmps.getD p undef = .pointer (some ⟨g, 0, none⟩)) (hg : w.heap[g]? = some (.cells cs tt fr))
 (hd : (match d with | .struct _ | .array _ _ => true | _ => false) = true) (hu : Try.prog.underlying ty = some d) (hi : (Try.prog.info? ty).map (·.size) = some cs.size) :
 (results fn tmps).run Try.prog w = .ok (.tuple #[tmps.getD t undef, .agg cs, tmps.getD u undef]) w := by
 have hp' : tmps[p]?.getD undef = .pointer (some ⟨g, 0, none⟩) := by simpa using hp
 simp [results, h, hp', asAddr, run_loadVar_row w g tt ty cs fr d hg hu (by cases d <;> first | rfl | exact hd | cases hd) hi]
structure Nb (M : Nat) (r : RS.Rf) : Prop where
 hM : M ≤ 600000
 n7 : r.n ≤ 7
 id : r.id < r.n
 T1 : 1 ≤ r.T
 T2 : r.T ≤ 20
 term : r.term ≤ M
 base : r.base ≤ M
 bt : r.bt ≤ M
 len : r.es.length ≤ M
 es : ∀ e ∈ r.es, e.1 ≤ M ∧ e.2.length ≤ 3000
 commit : r.commit ≤ M
 role : r.role ≤ 3
 leader : -1 ≤ r.leader ∧ r.leader ≤ 6
 left : -1 ≤ r.left ∧ r.left ≤ 50
 quiet : 0 ≤ r.quiet ∧ r.quiet ≤ 50
 beat : -1 ≤ r.beat ∧ r.beat ≤ 50
 who : -1 ≤ r.who ∧ r.who ≤ 6
 round : r.round ≤ M
 next : ∀ q, r.next q ≤ M
 mt : ∀ q, r.mt q ≤ M
section
variable {own : Own} {w : World} {i p q g t0 : Nat} {who0 : Int} {r : RS.Rf} {x : Ov} {o : RS.Ou} {M : Nat}
theorem none_w (own : Own) (i p g : Nat) (r : RS.Rf) (w : World) (h : NdAt own w i p g r) : Calls Try.prog 106 #[.pointer (some ⟨p, 0, none⟩)] w fun e w' => e = .returned (.bool false) ∧ w = w' := by
 have hc : w.cell? ⟨p, 5, none⟩ = some (.pointer (some ⟨g, 0, none⟩)) := h.c 5
 go_enter Try.func106, Try.ntmps106
 go_wp2
 go_ret
 exact ⟨rfl, rfl⟩
theorem role_w (own : Own) (i p g : Nat) (r : RS.Rf) (w : World) (h : NdAt own w i p g r) : Calls Try.prog 61 #[.pointer (some ⟨p, 0, none⟩)] w fun e w' => e = .returned (.int .u8 (r.role : Int)) ∧ w = w' := by
 have hc : w.cell? ⟨p, 7, none⟩ = some (.int .u8 (r.role : Int)) := h.c 7
 go_enter Try.func61, Try.ntmps61
 go_wp2_with (go_at_call 106; refine (none_w own i p g r w h).mono ?_; rintro e w1 ⟨rfl, rfl⟩)
 go_ret
 exact ⟨rfl, rfl⟩
theorem term_w (own : Own) (i p g : Nat) (r : RS.Rf) (w : World) (h : NdAt own w i p g r) : Calls Try.prog 62 #[.pointer (some ⟨p, 0, none⟩)] w fun e w' => e = .returned (.int .u64 (r.term : Int)) ∧ w = w' := by
 have hc : w.cell? ⟨p, 3, none⟩ = some (.int .u64 (r.term : Int)) := h.c 3
 go_enter Try.func62, Try.ntmps62
 go_wp2_with (go_at_call 106; refine (none_w own i p g r w h).mono ?_; rintro e w1 ⟨rfl, rfl⟩)
 go_ret
 exact ⟨rfl, rfl⟩
theorem for_w (own : Own) (i p g : Nat) (r : RS.Rf) (w : World) (h : NdAt own w i p g r) : Calls Try.prog 63 #[.pointer (some ⟨p, 0, none⟩)] w fun e w' => e = .returned (.int .i64 r.who) ∧ w = w' := by
 have hc : w.cell? ⟨p, 4, none⟩ = some (.int .i64 r.who) := h.c 4
 go_enter Try.func63, Try.ntmps63
 go_wp2_with (go_at_call 106; refine (none_w own i p g r w h).mono ?_; rintro e w1 ⟨rfl, rfl⟩)
 go_ret
 exact ⟨rfl, rfl⟩
theorem commit_w (own : Own) (i p g : Nat) (r : RS.Rf) (w : World) (h : NdAt own w i p g r) : Calls Try.prog 65 #[.pointer (some ⟨p, 0, none⟩)] w fun e w' => e = .returned (.int .u64 (r.commit : Int)) ∧ w = w' := by
 have hc : w.cell? ⟨p, 6, none⟩ = some (.int .u64 (r.commit : Int)) := h.c 6
 go_enter Try.func65, Try.ntmps65
 go_wp2_with (go_at_call 106; refine (none_w own i p g r w h).mono ?_; rintro e w1 ⟨rfl, rfl⟩)
 go_ret
 exact ⟨rfl, rfl⟩
theorem NdAt.drew (h : NdAt own w i p g r) : NdAt own w.drew i p g r := h.mv (L := fun _ => False) ⟨⟨rfl, rfl, rfl, Nat.le_refl _, fun _ _ _ => rfl⟩, fun _ _ => rfl⟩ id
theorem Mv.drew (L : Nat → Prop) (own : Own) (w : World) : Mv L own w own w.drew := ⟨⟨rfl, rfl, rfl, Nat.le_refl _, fun _ _ _ => rfl⟩, fun _ _ => rfl⟩
set_option maxRecDepth 100000 in
theorem draw_w (own : Own) (i p g : Nat) (r : RS.Rf) (w : World) (h : NdAt own w i p g r) (hT : r.T ≤ 20) (d : Nat) (hd : d < 2 ^ 64) :
 Calls Try.prog 105 #[.pointer (some ⟨p, 0, none⟩), .int .u64 (d : Int)] w fun e w' => (∃ v, e = .returned v) ∧ NdAt own w' i p g (r.draw d) ∧ Mv (fun l => l = i) own w own w' := by
 have hc : w.cell? ⟨p, 2, none⟩ = some (.int .i64 (r.T : Int)) := h.c 2
 have hf := h.frozen 9
 obtain ⟨u, hu⟩ : ∃ u : Value, w.cell? ⟨p, 9, none⟩ = some u := ⟨_, h.c 9⟩
 have H := zh h
 obtain ⟨N, hN⟩ : ∃ N, N = r.T + 1 := ⟨_, rfl⟩
 have e1 : IntKind.i64.wrap ((r.T : Int) + 1) = (N : Int) := by rw [IntWalk.i64_in _ (by omega)]; omega
 have e2 : IntKind.u64.wrap (N : Int) = (N : Int) := IntWalk.u64_in _ (by omega)
 obtain ⟨m, hm⟩ : ∃ m, m = d % N := ⟨_, rfl⟩
 have hm2 : m < N := by rw [hm]; exact Nat.mod_lt _ (by omega)
 have e3 : (d : Int) % (N : Int) = (m : Int) := by rw [hm]; rfl
 have e6 : (d : Int).tmod (N : Int) = (m : Int) := by rw [← e3]; exact Int.tmod_eq_emod_of_nonneg (by omega)
 have e7 : ¬ N = 0 := by omega
 have e4 : IntKind.i64.wrap (m : Int) = (m : Int) := IntWalk.i64_in _ (by omega)
 have e5 : IntKind.i64.wrap ((r.T : Int) + (m : Int)) = (r.T : Int) + (m : Int) := IntWalk.i64_in _ (by omega)
 have Hm := zh hm
 have HN := zh hN
 clear hm h hN
 go_enter Try.func105, Try.ntmps105
 go_still_tail 19, (by kernel_rfl)
 change wpList _ _ _ _ _ w.drew
 have hf' : w.drew.frozen? ⟨p, 9, none⟩ = false := hf
 have hu' : w.drew.cell? ⟨p, 9, none⟩ = some u := hu
 have HD := zh H.out.drew
 have HM := zh (Mv.drew (fun l => l = i) own w)
 generalize w.drew = w2 at *
 go_wp2
 go_end0
 refine ⟨⟨_, rfl⟩, HD.out.set 9 _ (r.draw d) (by rw [Hm.out, HN.out]; rfl) rfl rfl rfl, HM.out.trans (Mv.set HD.out.op _)⟩
end
section
variable {own : Own} {w : World} {i p q g t0 : Nat} {who0 : Int} {r : RS.Rf} {x : Ov} {o : RS.Ou} {M : Nat}
theorem drew_size (w : World) : w.drew.heap.size = w.heap.size := rfl
theorem Mv.alloc (own : Own) (w : World) (ob : Obj) (l : Nat) : Mv (fun _ => False) own w (ext own w.heap.size l) (w.alloc ob) := Mv.of_below ((Below.refl _ _).alloc (Nat.le_refl _) _) l
set_option maxRecDepth 100000 in
theorem begin_w (own : Own) (i p g : Nat) (r : RS.Rf) (w : World) (h : NdAt own w i p g r) :
 Calls Try.prog 107 #[.pointer (some ⟨p, 0, none⟩)] w fun e w' => e = .returned (.pointer (some ⟨w.heap.size, 0, none⟩)) ∧ ∃ own', StAt own' w' i p w.heap.size g r.term r.who r Ov.zero RS.Ou.none ∧ Mv (fun _ => False) own w own' w' := by
 have hc3 : w.cell? ⟨p, 3, none⟩ = some (.int .u64 (r.term : Int)) := h.c 3
 have hc4 : w.cell? ⟨p, 4, none⟩ = some (.int .i64 r.who) := h.c 4
 have H := zh h
 clear h
 go_enter Try.func107, Try.ntmps107
 go_wp2
 go_still_tail 10, (by kernel_rfl)
 change wpList _ _ _ _ _ w.drew
 have HD := zh H.out.drew
 have HM := zh (Mv.drew (fun _ => False) own w)
 have Hs := zh (drew_size w)
 clear H hc3 hc4
 generalize w.drew = w2 at *
 go_wp2
 go_ret
 rw [Hs.out]
 have hm := Mv.alloc own w2 (.cells (stc p Ov.zero r.term r.who) 176) 7
 refine ⟨rfl, _, ⟨HD.out.mv hm id, ?_, ?_, ?_⟩, HM.out.trans hm⟩
 · rw [← Hs.out]; exact heap_alloc_new _ _
 · rw [← Hs.out]; exact ext_ge (Nat.le_refl _)
 · exact ⟨rfl, .inl ⟨rfl, rfl⟩, .inl ⟨rfl, rfl⟩⟩
theorem NdAt.there (h : NdAt own w i p g r) {o n : Nat} (hn : o + n ≤ 34) : w.there p o n := by
 intro j hj
 refine ⟨?_, h.frozen _⟩
 rw [h.c]
 have hs : o + j < (rfc r g).size := by show o + j < 34; omega
 rw [Array.getElem?_eq_getElem hs]; rfl
theorem set7 (r : RS.Rf) (g : Nat) : setMany (rfc r g) 13 [.bool false, .bool false, .bool false, .bool false, .bool false, .bool false, .bool false] = rfc { r with sides := fun _ => false } g := by
 simp [setMany, rfc]
set_option maxRecDepth 100000 in
theorem alone_w (own : Own) (i p g : Nat) (r : RS.Rf) (w : World) (h : NdAt own w i p g r) (hid : r.id < 7) :
 Calls Try.prog 113 #[.pointer (some ⟨p, 0, none⟩)] w fun e w' => (∃ v, e = .returned v) ∧ NdAt own w' i p g r.alone ∧ Mv (fun l => l = i) own w own w' := by
 have k0 : w.cell? ⟨p, 13, none⟩ = some (.bool (r.sides 0)) := h.c 13
 have k1 : w.cell? ⟨p, 14, none⟩ = some (.bool (r.sides 1)) := h.c 14
 have k2 : w.cell? ⟨p, 15, none⟩ = some (.bool (r.sides 2)) := h.c 15
 have k3 : w.cell? ⟨p, 16, none⟩ = some (.bool (r.sides 3)) := h.c 16
 have k4 : w.cell? ⟨p, 17, none⟩ = some (.bool (r.sides 4)) := h.c 17
 have k5 : w.cell? ⟨p, 18, none⟩ = some (.bool (r.sides 5)) := h.c 18
 have k6 : w.cell? ⟨p, 19, none⟩ = some (.bool (r.sides 6)) := h.c 19
 have f0 : w.frozen? ⟨p, 13, none⟩ = false := h.frozen 13
 have f1 : w.frozen? ⟨p, 14, none⟩ = false := h.frozen 14
 have f2 : w.frozen? ⟨p, 15, none⟩ = false := h.frozen 15
 have f3 : w.frozen? ⟨p, 16, none⟩ = false := h.frozen 16
 have f4 : w.frozen? ⟨p, 17, none⟩ = false := h.frozen 17
 have f5 : w.frozen? ⟨p, 18, none⟩ = false := h.frozen 18
 have f6 : w.frozen? ⟨p, 19, none⟩ = false := h.frozen 19
 have HN := zh (h.sets 13 [.bool false, .bool false, .bool false, .bool false, .bool false, .bool false, .bool false] { r with sides := fun _ => false } (set7 r g) rfl rfl rfl)
 have HM := zh (Mv.sets (L := fun l => l = i) (own := own) (w := w) (b := p) h.op 13 [.bool false, .bool false, .bool false, .bool false, .bool false, .bool false, .bool false])
 have hi0 : (0 : Int) ≤ (r.id : Int) := by omega
 have hi1 : (r.id : Int) < 7 := by omega
 clear h
 go_enter Try.func113, Try.ntmps113
 go_wp2
 change Code.wp _ _ _ _ (w.setCells p 13 [.bool false, .bool false, .bool false, .bool false, .bool false, .bool false, .bool false])
 clear k0 k1 k2 k3 k4 k5 k6 f0 f1 f2 f3 f4 f5 f6
 generalize w.setCells p 13 [.bool false, .bool false, .bool false, .bool false, .bool false, .bool false, .bool false] = w1 at *
 have hc1 : w1.cell? ⟨p, 1, none⟩ = some (.int .i64 (r.id : Int)) := HN.out.c 1
 go_still_tail 9, (by kernel_rfl)
 change wpList _ _ _ _ _ w1.drew
 have HD := zh HN.out.drew
 have HM2 := zh (HM.out.trans (Mv.drew (fun l => l = i) own w1))
 have hf := HD.out.frozen (13 + r.id)
 have hcc : w1.drew.cell? ⟨p, 13 + r.id, none⟩ = some (.bool false) := by rw [HD.out.c, rfc_side _ _ hid]
 clear hc1 HN HM
 generalize w1.drew = w2 at *
 go_wp2
 go_end0
 have hs := set_side { r with sides := fun _ => false } g hid true
 refine ⟨⟨_, rfl⟩, HD.out.set (13 + r.id) _ r.alone ?_ rfl rfl rfl, HM2.out.trans (Mv.set HD.out.op _)⟩
 rw [hs]
 have e : ({ r with sides := fun i => if i = r.id then true else (fun _ => false) i } : RS.Rf) = r.alone := by
  unfold RS.Rf.alone
  congr 1
 exact congrArg (fun z => rfc z g) e
set_option maxRecDepth 100000 in
theorem follow_w (own : Own) (i p q g t0 : Nat) (who0 : Int) (r : RS.Rf) (x : Ov) (o : RS.Ou) (w : World) (h : StAt own w i p q g t0 who0 r x o) (hT : r.T ≤ 20) (d : Nat) (hd : d < 2 ^ 64) :
 Calls Try.prog 117 #[.pointer (some ⟨q, 0, none⟩), .int .u64 (d : Int)] w fun e w' => (∃ v, e = .returned v) ∧ StAt own w' i p q g t0 who0 (r.follow d) x o ∧ Mv (fun l => l = i) own w own w' := by
 have hq0 : w.cell? ⟨q, 0, none⟩ = some (.pointer (some ⟨p, 0, none⟩)) := h.c 0
 have hp7 : w.cell? ⟨p, 7, none⟩ = some (.int .u8 (r.role : Int)) := h.nd.c 7
 have hf := h.nd.frozen 7
 have hne := h.ne
 have H1 := zh (h.setp 7 (.int .u8 0) { r with role := 0 } rfl rfl rfl rfl)
 have HM := zh (Mv.set (L := fun l => l = i) (own := own) (w := w) (a := ⟨p, 7, none⟩) h.nd.op (.int .u8 0))
 clear h
 go_enter Try.func117, Try.ntmps117
 go_wp2_with (go_at_call 105; refine (draw_w own i p g _ _ H1.out.nd hT d hd).mono ?_; rintro e w1 ⟨⟨v, rfl⟩, hN, hM⟩; have HN := zh hN; have HM2 := zh hM; clear hN hM)
 go_end0
 exact ⟨⟨_, rfl⟩, H1.out.of_nd HN.out HM2.out, HM.out.trans HM2.out⟩
theorem same_drew (w : World) : RegT.Same w w.drew := ⟨rfl, rfl, rfl, rfl⟩
theorem countP_succ (f : Nat → Bool) (k : Nat) : (List.range (k + 1)).countP f = (List.range k).countP f + (if f k = true then 1 else 0) := by
 rw [List.range_succ, List.countP_append]
 by_cases h : f k = true <;> simp [h]
set_option maxRecDepth 100000 in
theorem most_w (own : Own) (i p g : Nat) (r : RS.Rf) (w : World) (h : NdAt own w i p g r) (hn : r.n ≤ 7) :
 Calls Try.prog 115 #[.pointer (some ⟨p, 0, none⟩)] w fun e w' => e = .returned (.bool r.most) ∧ RegT.Same w w' := by
 have hc0 : w.cell? ⟨p, 0, none⟩ = some (.int .i64 (r.n : Int)) := h.c 0
 have hn0 : (0 : Int) ≤ (r.n : Int) := by omega
 have hn7 : (r.n : Int) ≤ 7 := by omega
 have HS := zh (fun k (hk : k < 7) => (h.c (13 + k)).trans (rfc_side r g hk))
 have Hmost := zh (show r.most = decide (r.n < 2 * (List.range r.n).countP r.sides) from rfl)
 clear h
 go_enter Try.func115, Try.ntmps115
 go_wp2
 go_quiet (fail)
 have HR := zh (show RegT.Same w (w.drewN nq) from ⟨rfl, rfl, rfl, rfl⟩)
 have hc1 : (w.drewN nq).cell? ⟨p, 0, none⟩ = some (.int .i64 (r.n : Int)) := HR.out.cell hc0
 have HS1 := zh (fun k (hk : k < 7) => HR.out.cell (HS.out k hk))
 clear hc0 HS
 generalize w.drewN nq = w1 at *
 go_wp2
 go_loop [3, 16] (fun c k => ∃ (a b : Nat), b ≤ r.n ∧ Hid (a = (List.range b).countP r.sides) ∧ a ≤ b ∧ c = .int .i64 (a : Int) ∧ k = .int .i64 (b : Int)) (fun _ k => r.n - (intOf k).toNat)
 case atStart => exact ⟨0, 0, Nat.zero_le _, zh rfl, Nat.le_refl _, rfl, rfl⟩
 case round =>
  obtain ⟨a, b, hb, Ha, hab, rfl, rfl⟩ := hrel
  by_cases hlt : b < r.n
  · have hcell := HS1.out b (by omega)
    have Hs := zh (countP_succ r.sides b)
    have hb0 : (0 : Int) ≤ (b : Int) := by omega
    have hb1 : (b : Int) < (r.n : Int) := by omega
    cases hsd : r.sides b with
    | true =>
     rw [hsd] at hcell
     have Hsd := zh hsd
     clear hsd
     go_wp2
     go_round
     case rel => exact ⟨a + 1, b + 1, by omega, zh (by rw [Hs.out, Ha.out, Hsd.out]; rfl), by omega, by go_num, by go_num⟩
     case measure => simp [intOf]; omega
    | false =>
     rw [hsd] at hcell
     have Hsd := zh hsd
     clear hsd
     go_wp2
     go_round
     case rel => exact ⟨a, b + 1, by omega, zh (by rw [Hs.out, Ha.out, Hsd.out]; rfl), by omega, by go_num, by go_num⟩
     case measure => simp [intOf]; omega
  · have hbn : b = r.n := by omega
    subst hbn
    go_wp2
    go_ret
    refine ⟨?_, HR.out⟩
    rw [Hmost.out, ← Ha.out]
    simp
    omega
end
end Go.Proofs.Yteellfgiejnigaa
