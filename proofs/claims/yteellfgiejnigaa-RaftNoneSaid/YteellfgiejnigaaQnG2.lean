/- Whose memory is whose: labels of blocks; a node and a step as they lie. -/
import Derived.Test.YteellfgiejnigaaQnG1
import Derived.Test.YteellfgiejnigaaQnS19
namespace Go.Proofs.Yteellfgiejnigaa
open Go.ChangeShapes Go.WideShapes Go.ChangeAt Go.RowKit
set_option linter.unusedVariables false
/-- What each block is part of. -/
abbrev Own := Nat → Nat
/-- What is labelled so, but for one block. -/
def Ft (own : Own) (l x : Nat) : Foot := fun b => own b = l ∧ b ≠ x
/-- What is new gets this label. -/
def ext (own : Own) (n l : Nat) : Own := fun b => if b < n then own b else l
theorem ext_lt {own : Own} {n l b : Nat} (h : b < n) : ext own n l b = own b := if_pos h
theorem ext_ge {own : Own} {n l b : Nat} (h : n ≤ b) : ext own n l b = l := if_neg (Nat.not_lt.2 h)
/-- What is labelled otherwise lies as it lay; old labels stay. -/
structure Mv (L : Nat → Prop) (own : Own) (w : World) (own' : Own) (w' : World) : Prop where
  t : Touch (fun b => L (own b)) w w'
  lab : ∀ b, b < w.heap.size → own' b = own b
theorem Mv.refl (L : Nat → Prop) (own : Own) (w : World) : Mv L own w own w := ⟨Touch.refl _ _, fun _ _ => rfl⟩
theorem Mv.trans {L : Nat → Prop} {own own1 own2 : Own} {w w1 w2 : World} (h : Mv L own w own1 w1) (k : Mv L own1 w1 own2 w2) : Mv L own w own2 w2 :=
  ⟨h.t.trans k.t fun b hb e => by rw [h.lab b hb] at e; exact e, fun b hb => (k.lab b (Nat.lt_of_lt_of_le hb h.t.size)).trans (h.lab b hb)⟩
theorem Mv.mono {L L' : Nat → Prop} {own own' : Own} {w w' : World} (h : Mv L own w own' w') (hL : ∀ l, L l → L' l) : Mv L' own w own' w' := ⟨h.t.mono fun b _ e => hL _ e, h.lab⟩
theorem Mv.of_touch {L : Nat → Prop} {S : Foot} {own : Own} {w w' : World} (h : Touch S w w') (hS : ∀ b, b < w.heap.size → S b → L (own b)) (l : Nat) : Mv L own w (ext own w.heap.size l) w' := ⟨h.mono hS, fun b hb => ext_lt hb⟩
theorem Mv.of_below {L : Nat → Prop} {own : Own} {w w' : World} (h : Below w.heap.size w w') (l : Nat) : Mv L own w (ext own w.heap.size l) w' := ⟨Touch.of_below h, fun b hb => ext_lt hb⟩
theorem Mv.set {L : Nat → Prop} {own : Own} {w : World} {a : Addr} (h : L (own a.block)) (v : Value) : Mv L own w own (w.setCell a v) :=
  ⟨⟨rfl, rfl, rfl, by simp [World.setCell], fun b hb hn => Below.heap_setCell _ _ _ _ (fun e => hn (by subst e; exact h))⟩, fun _ _ => rfl⟩
theorem Mv.same {L : Nat → Prop} {own own' : Own} {w w' : World} (h : Mv L own w own' w') {b : Nat} (hb : b < w.heap.size) (hn : ¬ L (own b)) : w'.heap[b]? = w.heap[b]? := h.t.block b hb hn
/-- What is told by what lies on its ground. -/
structure Footed (P : World → Foot → Prop) : Prop where
  mono : ∀ {w : World} {S S' : Foot}, P w S → (∀ b, b < w.heap.size → S b → S' b) → P w S'
  frame : ∀ {w w' : World} {S : Foot}, P w S → SameOn S w w' → P w' S
theorem Footed.move {P : World → Foot → Prop} (hP : Footed P) {S S' : Foot} {w w' : World} (h : P w S) (hl : ∀ b, b < w.heap.size → S b → S' b ∧ w'.heap[b]? = w.heap[b]?) : P w' S' := by
  have h1 := hP.mono (S' := fun b => S b ∧ b < w.heap.size) h fun b hb e => ⟨e, hb⟩
  exact hP.mono (hP.frame h1 fun b hb => (hl b hb.2 hb.1).2) fun b _ e => (hl b e.2 e.1).1
theorem footed_tk (g B T : Nat) (v : Value) (es : List Ent) : Footed (fun w S => TkAt w S g B T v es) := ⟨fun h => h.mono, fun h => h.frame⟩
theorem footed_esr (v : Value) (es : List Ent) : Footed (fun w S => EsR w S v es) := ⟨fun h => h.mono, fun h => h.frame⟩
theorem footed_dat (v : Value) (l : List UInt8) : Footed (fun w S => DatA w S v l) := ⟨fun h => h.mono, fun h => h.frame⟩
theorem footed_rog {α : Type} (R : Rep α) (e : TypeId) (v : Value) (l : List α) : Footed (fun w S => RoG R w S e v l) := ⟨fun h => h.mono, fun h => h.frame⟩
theorem datA_nil (w : World) (S : Foot) (p : Option Addr) (c : Nat) (h : PtB w p c []) : DatA w S (.slice p 0 c) [] :=
  ⟨⟨p, c, rfl, h⟩, fun _ _ e => absurd rfl e, fun _ _ e => absurd rfl e, fun b off c e i hi => absurd hi (Nat.not_lt_zero i)⟩

/-! ### Notes in cells -/
/-- A note's cells. -/
def ntcR (x : RS.Nt) (lv dv : Value) : List Value := [.int .u8 (x.kind : Int), .int .u64 (x.term : Int), .int .u64 (x.round : Int), .int .u64 (x.index : Int), .int .u64 (x.at_ : Int), .int .u64 (x.commit : Int), .bool x.yes, lv, dv]
/-- A note: its entries lie on that ground; it has no data. -/
def NtAt (w : World) (S : Foot) (x : RS.Nt) (cs : List Value) : Prop := ∃ lv dv, cs = ntcR x lv dv ∧ EsR w S lv x.list ∧ DatA w S dv []
theorem NtAt.len {w : World} {S : Foot} {x : RS.Nt} {cs : List Value} (h : NtAt w S x cs) : cs.length = 9 := by obtain ⟨lv, dv, rfl, _, _⟩ := h; rfl
theorem NtAt.one {w : World} {S : Foot} {x : RS.Nt} {cs : List Value} (h : NtAt w S x cs) : ∀ u ∈ cs, u.oneCell' = true := by
  obtain ⟨lv, dv, rfl, h1, h2⟩ := h
  obtain ⟨p, c, xs, rfl, _⟩ := h1
  obtain ⟨p2, c2, rfl, _⟩ := h2.rd
  intro u hu
  simp only [ntcR, List.mem_cons, List.not_mem_nil, or_false] at hu
  rcases hu with rfl | rfl | rfl | rfl | rfl | rfl | rfl | rfl | rfl <;> rfl
theorem footed_nt (x : RS.Nt) (cs : List Value) : Footed (fun w S => NtAt w S x cs) :=
  ⟨fun ⟨lv, dv, e, h1, h2⟩ hs => ⟨lv, dv, e, h1.mono hs, h2.mono hs⟩, fun ⟨lv, dv, e, h1, h2⟩ hs => ⟨lv, dv, e, h1.frame hs, h2.frame hs⟩⟩
theorem NtAt.keeps {w w' : World} {S : Foot} {x : RS.Nt} {cs : List Value} (h : NtAt w S x cs) (hk : Keeps w w') : NtAt w' S x cs := by
  obtain ⟨lv, dv, e, h1, h2⟩ := h; exact ⟨lv, dv, e, h1.keeps hk, h2.keeps hk⟩
/-- What is sent: to whom, and a note. -/
def sentR : Rep (Nat × RS.Nt) where
  k := 10
  rel w S x cs := ∃ ds, cs = .int .i64 (x.1 : Int) :: ds ∧ NtAt w S x.2 ds
  len := by rintro w S x cs ⟨ds, rfl, h⟩; rw [List.length_cons, h.len]
  one := by
    rintro w S x cs ⟨ds, rfl, h⟩ u hu
    rcases List.mem_cons.1 hu with rfl | hu
    · rfl
    · exact h.one u hu
  frame := by rintro w w' S x cs ⟨ds, rfl, h⟩ hs; exact ⟨ds, rfl, (footed_nt _ _).frame h hs⟩
  mono := by rintro w S S' x cs ⟨ds, rfl, h⟩ hs; exact ⟨ds, rfl, (footed_nt _ _).mono h hs⟩
  keeps := by rintro w w' S x cs ⟨ds, rfl, h⟩ hk; exact ⟨ds, rfl, h.keeps hk⟩
/-- A number. -/
def intR : Rep Nat where
  k := 1
  rel w S x cs := cs = [.int .i64 (x : Int)]
  len := by rintro w S x cs rfl; rfl
  one := by
    rintro w S x cs rfl u hu
    rcases List.mem_cons.1 hu with rfl | hu
    · rfl
    · cases hu
  frame := by rintro w w' S x cs h _; exact h
  mono := by rintro w S S' x cs h _; exact h
  keeps := by rintro w w' S x cs h _; exact h

/-! ### A node, and a step -/
/-- A node's cells. -/
def rfc (r : RS.Rf) (g : Nat) : Array Value := #[.int .i64 (r.n : Int), .int .i64 (r.id : Int), .int .i64 (r.T : Int), .int .u64 (r.term : Int), .int .i64 r.who, .pointer (some ⟨g, 0, none⟩), .int .u64 (r.commit : Int), .int .u8 (r.role : Int), .int .i64 r.leader, .int .i64 r.left, .int .i64 r.quiet, .int .i64 r.beat, .int .u64 (r.round : Int),
  .bool (r.sides 0), .bool (r.sides 1), .bool (r.sides 2), .bool (r.sides 3), .bool (r.sides 4), .bool (r.sides 5), .bool (r.sides 6),
  .int .u64 (r.next 0 : Int), .int .u64 (r.mt 0 : Int), .int .u64 (r.next 1 : Int), .int .u64 (r.mt 1 : Int), .int .u64 (r.next 2 : Int), .int .u64 (r.mt 2 : Int), .int .u64 (r.next 3 : Int), .int .u64 (r.mt 3 : Int), .int .u64 (r.next 4 : Int), .int .u64 (r.mt 4 : Int), .int .u64 (r.next 5 : Int), .int .u64 (r.mt 5 : Int), .int .u64 (r.next 6 : Int), .int .u64 (r.mt 6 : Int)]
/-- A node as it lies: block p, its track at block g. -/
structure NdAt (own : Own) (w : World) (i p g : Nat) (r : RS.Rf) : Prop where
  hi : i < 7
  rp : w.heap[p]? = some (.cells (rfc r g) 95)
  op : own p = i
  tk : ∃ v, TkAt w (Ft own i p) g r.base r.bt v r.es
theorem NdAt.lt {own : Own} {w : World} {i p g : Nat} {r : RS.Rf} (h : NdAt own w i p g r) : p < w.heap.size := (Array.getElem?_eq_some_iff.1 h.rp).1
theorem NdAt.move {own own' : Own} {w w' : World} {i p g : Nat} {r : RS.Rf} (h : NdAt own w i p g r) (hl : ∀ b, b < w.heap.size → own b = i → own' b = i ∧ w'.heap[b]? = w.heap[b]?) : NdAt own' w' i p g r := by
  obtain ⟨v, ht⟩ := h.tk
  have hp := hl p h.lt h.op
  exact ⟨h.hi, hp.2.trans h.rp, hp.1, v, (footed_tk _ _ _ _ _).move ht fun b hb e => ⟨⟨(hl b hb e.1).1, e.2⟩, (hl b hb e.1).2⟩⟩
theorem NdAt.mv {L : Nat → Prop} {own own' : Own} {w w' : World} {i p g : Nat} {r : RS.Rf} (h : NdAt own w i p g r) (m : Mv L own w own' w') (hi : ¬ L i) : NdAt own' w' i p g r :=
  h.move fun b hb e => ⟨(m.lab b hb).trans e, m.same hb (by rw [e]; exact hi)⟩
theorem NdAt.c {own : Own} {w : World} {i p g : Nat} {r : RS.Rf} (h : NdAt own w i p g r) (k : Nat) : w.cell? ⟨p, k, none⟩ = (rfc r g)[k]? := cell_of_row _ _ _ _ _ _ h.rp
theorem NdAt.frozen {own : Own} {w : World} {i p g : Nat} {r : RS.Rf} (h : NdAt own w i p g r) (k : Nat) : w.frozen? ⟨p, k, none⟩ = false := by
  have h := h.rp
  simp [World.frozen?, h]
/-- One of its cells is written. -/
theorem NdAt.set {own : Own} {w : World} {i p g : Nat} {r : RS.Rf} (h : NdAt own w i p g r) (k : Nat) (v : Value) (r' : RS.Rf) (hc : (rfc r g).setIfInBounds k v = rfc r' g) (hb : r'.base = r.base) (ht : r'.bt = r.bt) (he : r'.es = r.es) : NdAt own (w.setCell ⟨p, k, none⟩ v) i p g r' := by
  obtain ⟨u, htk⟩ := h.tk
  refine ⟨h.hi, ?_, h.op, u, ?_⟩
  · have hp := h.rp
    simp only [World.setCell, Array.getElem?_modify, hp, if_true, Option.map_some]
    rw [← hc]; rfl
  · rw [hb, ht, he]
    exact htk.frame fun b hb => Below.heap_setCell _ _ _ _ hb.2
/-- What a step wants, as it lies. -/
structure Ov where
  vo : Bool
  sh : Bool
  f0 : Int
  f1 : Int
  f2 : Int
  f3 : Int
  f4 : Int
  f5 : Int
  f6 : Bool
  f7p : Option Addr
  f7n : Nat
  f7c : Nat
  f8p : Option Addr
  f8n : Nat
  f8c : Nat
  cu : Bool
  ke : Int
  ap : Option Addr
  an : Nat
  ac : Nat
  sp : Option Addr
  sn : Nat
  sc : Nat
  np : Option Addr
  nn : Nat
  nc : Nat
def Ov.zero : Ov := ⟨false, false, 0, 0, 0, 0, 0, 0, false, none, 0, 0, none, 0, 0, false, 0, none, 0, 0, none, 0, 0, none, 0, 0⟩
def Ov.cells (x : Ov) : Array Value := #[.bool x.vo, .bool x.sh, .int .u8 x.f0, .int .u64 x.f1, .int .u64 x.f2, .int .u64 x.f3, .int .u64 x.f4, .int .u64 x.f5, .bool x.f6, .slice x.f7p x.f7n x.f7c, .slice x.f8p x.f8n x.f8c, .bool x.cu, .int .u64 x.ke, .slice x.ap x.an x.ac, .slice x.sp x.sn x.sc, .slice x.np x.nn x.nc]
/-- A step's cells. -/
def stc (p : Nat) (x : Ov) (t0 : Nat) (who0 : Int) : Array Value := #[.pointer (some ⟨p, 0, none⟩), .bool x.vo, .bool x.sh, .int .u8 x.f0, .int .u64 x.f1, .int .u64 x.f2, .int .u64 x.f3, .int .u64 x.f4, .int .u64 x.f5, .bool x.f6, .slice x.f7p x.f7n x.f7c, .slice x.f8p x.f8n x.f8c, .bool x.cu, .int .u64 x.ke, .slice x.ap x.an x.ac, .slice x.sp x.sn x.sc, .slice x.np x.nn x.nc, .int .u64 (t0 : Int), .int .i64 who0]
/-- A ground, but for one row. -/
def OffS (S : Foot) (u : Value) : Foot := fun b => S b ∧ u.ownBlock ≠ some b
/-- What it wants: what is to be sent, who needs a snapshot, how many entries are told. -/
structure OvAt (w : World) (S : Foot) (x : Ov) (o : RS.Ou) : Prop where
  an : x.an = o.add.length
  se : RoG sentR w (OffS S (.slice x.np x.nn x.nc)) 164 (.slice x.sp x.sn x.sc) o.send
  ne : RoG intR w S 3 (.slice x.np x.nn x.nc) o.need
theorem footed_ov (x : Ov) (o : RS.Ou) : Footed (fun w S => OvAt w S x o) := ⟨fun h hs => ⟨h.an, h.se.mono fun b hb e => ⟨hs b hb e.1, e.2⟩, h.ne.mono hs⟩, fun h hs => ⟨h.an, h.se.frame fun b e => hs b e.1, h.ne.frame hs⟩⟩
/-- A step as it lies, at block q. -/
structure StAt (own : Own) (w : World) (i p q g t0 : Nat) (who0 : Int) (r : RS.Rf) (x : Ov) (o : RS.Ou) : Prop where
  nd : NdAt own w i p g r
  rq : w.heap[q]? = some (.cells (stc p x t0 who0) 176)
  oq : own q = 7
  ov : OvAt w (Ft own 7 q) x o
section
variable {own own' : Own} {w w' : World} {i p q g t0 : Nat} {who0 : Int} {r : RS.Rf} {x : Ov} {o : RS.Ou}
theorem StAt.lt (h : StAt own w i p q g t0 who0 r x o) : q < w.heap.size := (Array.getElem?_eq_some_iff.1 h.rq).1
theorem StAt.ne (h : StAt own w i p q g t0 who0 r x o) : p ≠ q := fun e => by
  have h1 := h.nd.op
  have h2 := h.oq
  have h3 := h.nd.hi
  rw [e, h2] at h1
  omega
theorem StAt.c (h : StAt own w i p q g t0 who0 r x o) (k : Nat) : w.cell? ⟨q, k, none⟩ = (stc p x t0 who0)[k]? := cell_of_row _ _ _ _ _ _ h.rq
theorem StAt.frozen (h : StAt own w i p q g t0 who0 r x o) (k : Nat) : w.frozen? ⟨q, k, none⟩ = false := by
  have h := h.rq
  simp [World.frozen?, h]
theorem StAt.mv {L : Nat → Prop} (h : StAt own w i p q g t0 who0 r x o) (m : Mv L own w own' w') (hi : ¬ L i) (h7 : ¬ L 7) : StAt own' w' i p q g t0 who0 r x o :=
  ⟨h.nd.mv m hi, (m.same h.lt (by rw [h.oq]; exact h7)).trans h.rq, (m.lab q h.lt).trans h.oq,
    (footed_ov _ _).move h.ov fun b hb e => ⟨⟨(m.lab b hb).trans e.1, e.2⟩, m.same hb (by rw [e.1]; exact h7)⟩⟩
theorem StAt.setp (h : StAt own w i p q g t0 who0 r x o) (k : Nat) (v : Value) (r' : RS.Rf) (hc : (rfc r g).setIfInBounds k v = rfc r' g) (hb : r'.base = r.base) (ht : r'.bt = r.bt) (he : r'.es = r.es) : StAt own (w.setCell ⟨p, k, none⟩ v) i p q g t0 who0 r' x o := by
  have hpq := h.ne
  have hop := h.nd.op
  have hi := h.nd.hi
  refine ⟨h.nd.set k v r' hc hb ht he, (Below.heap_setCell _ _ _ _ (Ne.symm hpq)).trans h.rq, h.oq, (footed_ov _ _).frame h.ov fun b hb => Below.heap_setCell _ _ _ _ fun e => ?_⟩
  have e2 : b = p := e
  have := hb.1
  rw [e2, hop] at this
  omega
/-- A cell of the step's block is written. -/
theorem StAt.setq (h : StAt own w i p q g t0 who0 r x o) (k : Nat) (v : Value) (x' : Ov) (o' : RS.Ou) (hc : (stc p x t0 who0).setIfInBounds k v = stc p x' t0 who0) (ho : OvAt w (Ft own 7 q) x' o') : StAt own (w.setCell ⟨q, k, none⟩ v) i p q g t0 who0 r x' o' := by
  have hpq := h.ne
  have hi := h.nd.hi
  have hoq := h.oq
  refine ⟨h.nd.move fun b hb e => ⟨e, Below.heap_setCell _ _ _ _ fun e2 => ?_⟩, ?_, h.oq, (footed_ov _ _).frame ho fun b hb => Below.heap_setCell _ _ _ _ hb.2⟩
  · have e3 : b = q := e2
    rw [e3, hoq] at e
    omega
  · have hq := h.rq
    simp only [World.setCell, Array.getElem?_modify, hq, if_true, Option.map_some]
    rw [← hc]; rfl
theorem StAt.of_nd {r' : RS.Rf} {g' : Nat} (h : StAt own w i p q g t0 who0 r x o) (n : NdAt own' w' i p g' r') (m : Mv (fun l => l = i) own w own' w') : StAt own' w' i p q g' t0 who0 r' x o := by
  have h7 : ¬ (7 = i) := by have := h.nd.hi; omega
  exact ⟨n, (m.same h.lt (by rw [h.oq]; exact h7)).trans h.rq, (m.lab q h.lt).trans h.oq, (footed_ov _ _).move h.ov fun b hb e => ⟨⟨(m.lab b hb).trans e.1, e.2⟩, m.same hb (by rw [e.1]; exact h7)⟩⟩
theorem drew_heap {W : World} (hR : RegT.Same w.drew W) : W.heap = w.heap := hR.heap
theorem Mv.of_same {L : Nat → Prop} {W : World} (hR : RegT.Same w.drew W) : Mv L own w own W :=
  ⟨⟨hR.os, hR.tape, hR.output, by rw [drew_heap hR]; exact Nat.le_refl _, fun b _ _ => by rw [drew_heap hR]⟩, fun _ _ => rfl⟩
theorem NdAt.same {W : World} (h : NdAt own w i p g r) (hR : RegT.Same w.drew W) : NdAt own W i p g r := h.mv (L := fun _ => False) (Mv.of_same hR) id
theorem StAt.same {W : World} (h : StAt own w i p q g t0 who0 r x o) (hR : RegT.Same w.drew W) : StAt own W i p q g t0 who0 r x o := h.mv (L := fun _ => False) (Mv.of_same hR) id id
end
/-! ### Several cells are written; cells by index -/
def setMany (C : Array Value) (o : Nat) : List Value → Array Value
  | [] => C
  | v :: vs => setMany (C.setIfInBounds o v) (o + 1) vs
theorem heap_setCells {b : Nat} {t : TypeId} {fr : Nat × Nat} : ∀ (vs : List Value) (o : Nat) (C : Array Value) (w : World), w.heap[b]? = some (.cells C t fr) → (w.setCells b o vs).heap[b]? = some (.cells (setMany C o vs) t fr)
  | [], _, _, _, h => h
  | v :: vs, o, C, w, h => by
    rw [World.setCells, setMany]
    refine heap_setCells vs (o + 1) _ _ ?_
    simp only [World.setCell, Array.getElem?_modify, h, if_true, Option.map_some]
    rfl
theorem other_setCells {b : Nat} : ∀ (vs : List Value) (o : Nat) (w : World) (k : Nat), k ≠ b → (w.setCells b o vs).heap[k]? = w.heap[k]?
  | [], _, _, _, _ => rfl
  | v :: vs, o, w, k, h => by
    rw [World.setCells, other_setCells vs (o + 1) _ k h]
    exact Below.heap_setCell _ _ _ _ h
theorem Mv.sets {L : Nat → Prop} {own : Own} {w : World} {b : Nat} (h : L (own b)) (o : Nat) (vs : List Value) : Mv L own w own (w.setCells b o vs) := by
  induction vs generalizing o w with
  | nil => exact Mv.refl _ _ _
  | cons v vs ih => rw [World.setCells]; exact (Mv.set (a := ⟨b, o, none⟩) h v).trans (ih (o + 1))
theorem NdAt.sets {own : Own} {w : World} {i p g : Nat} {r : RS.Rf} (h : NdAt own w i p g r) (o : Nat) (vs : List Value) (r' : RS.Rf) (hc : setMany (rfc r g) o vs = rfc r' g) (hb : r'.base = r.base) (ht : r'.bt = r.bt) (he : r'.es = r.es) : NdAt own (w.setCells p o vs) i p g r' := by
  obtain ⟨u, htk⟩ := h.tk
  refine ⟨h.hi, by rw [← hc]; exact heap_setCells vs o _ _ h.rp, h.op, u, ?_⟩
  rw [hb, ht, he]
  exact htk.frame fun b hb => other_setCells vs o w b hb.2
theorem rfc_side (r : RS.Rf) (g : Nat) {f : Nat} (hf : f < 7) : (rfc r g)[13 + f]? = some (.bool (r.sides f)) := by
  rcases f with _ | _ | _ | _ | _ | _ | _ | f
  all_goals first | rfl | omega
theorem rfc_next (r : RS.Rf) (g : Nat) {f : Nat} (hf : f < 7) : (rfc r g)[20 + f * 2]? = some (.int .u64 (r.next f : Int)) := by
  rcases f with _ | _ | _ | _ | _ | _ | _ | f
  all_goals first | rfl | omega
theorem rfc_mt (r : RS.Rf) (g : Nat) {f : Nat} (hf : f < 7) : (rfc r g)[20 + f * 2 + 1]? = some (.int .u64 (r.mt f : Int)) := by
  rcases f with _ | _ | _ | _ | _ | _ | _ | f
  all_goals first | rfl | omega
theorem set_side (r : RS.Rf) (g : Nat) {f : Nat} (hf : f < 7) (b : Bool) : (rfc r g).setIfInBounds (13 + f) (.bool b) = rfc { r with sides := fun i => if i = f then b else r.sides i } g := by
  rcases f with _ | _ | _ | _ | _ | _ | _ | f
  all_goals first | rfl | omega
theorem set_next (r : RS.Rf) (g : Nat) {f : Nat} (hf : f < 7) (n : Nat) : (rfc r g).setIfInBounds (20 + f * 2) (.int .u64 (n : Int)) = rfc { r with next := fun i => if i = f then n else r.next i } g := by
  rcases f with _ | _ | _ | _ | _ | _ | _ | f
  all_goals first | rfl | omega
theorem set_mt (r : RS.Rf) (g : Nat) {f : Nat} (hf : f < 7) (n : Nat) : (rfc r g).setIfInBounds (20 + f * 2 + 1) (.int .u64 (n : Int)) = rfc { r with mt := fun i => if i = f then n else r.mt i } g := by
  rcases f with _ | _ | _ | _ | _ | _ | _ | f
  all_goals first | rfl | omega
end Go.Proofs.Yteellfgiejnigaa
