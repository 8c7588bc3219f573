/- RaftSafe: L1. -/
import Derived.ChangeSame
import Derived.Deep.Matrix
import Derived.Deep.Slices
import Derived.OpenShut
import Derived.Orders
import Derived.OrdersIn
import Derived.ProofKit
import Derived.RangeFuncCalls
import Derived.SizedLaws
import Derived.WalkKit
import Derived.Lib.Hide
namespace Go.Proofs.Yteellfgiejnigaa
open Go.RowKit
theorem zh {p : Prop} (h : p) : Hid p := Lib.hid h
section
variable {P : Program} {ops : Array Oper} {rest : List Oper} {o : Oper} {a : Act} {w : World} {Q : Exit → Act → World → Prop}
theorem wpList_alloc_zero (hgd : o.guard = none) (ty : TypeId) (ho : o.op = .alloc ty) (cs : Array Value) (hz : ((P.info? ty).bind (·.zero)).map Value.cells = some cs)
 (h : wpList P ops Q rest (a.put o.dst (.pointer (some ⟨w.heap.size, 0, none⟩))) (w.alloc (.cells cs ty))) : wpList P ops Q (o :: rest) a w := by
 refine wpList_plain hgd fun _ hK => ?_
 have hK := hK _ _ h
 unfold Oper.wp execOp
 simp only [ho]
 cases hi : P.info? ty with
 | none => simp [hi] at hz
 | some i =>
  cases hz' : i.zero with
  | none => simp [hi, hz'] at hz
  | some z =>
   simp [hi, hz'] at hz
   subst hz
   simp [Instr.alloc, zeroValue, typeInfo, hi, hz', newVar, newRow, Sem.run_bind]
   exact hK
end
def vb (b : UInt8) : Value := .int .u8 (b.toNat : Int)
def Keeps (w w' : World) : Prop := ∀ k, k < w.heap.size → w'.heap[k]? = w.heap[k]?
theorem Keeps.cell {w w' : World} (h : Keeps w w') {a : Addr} {v : Value} (hc : w.cell? a = some v) : w'.cell? a = some v := by
 rw [World.cell?_of_block (h a.block (block_lt_of_cell hc))]; exact hc
theorem Below.keeps {w w' : World} (h : Below w.heap.size w w') : Keeps w w' := h.block
theorem Keeps.refl (w : World) : Keeps w w := fun _ _ => rfl
theorem Keeps.of_heap {w w' : World} (h : w'.heap = w.heap) : Keeps w w' := fun _ _ => by rw [h]
theorem keeps_lt {w w' : World} (h : Keeps w w') : w.heap.size ≤ w'.heap.size := by
 rcases Nat.eq_zero_or_pos w.heap.size with e | e
 · omega
 · have h1 := h (w.heap.size - 1) (by omega)
   rw [Array.getElem?_eq_getElem (show w.heap.size - 1 < w.heap.size by omega)] at h1
   have := (Array.getElem?_eq_some_iff.1 h1).1
   omega
theorem Keeps.trans {a b c : World} (h : Keeps a b) (k : Keeps b c) : Keeps a c := fun i hi => (k i (Nat.lt_of_lt_of_le hi (keeps_lt h))).trans (h i hi)
theorem Keeps.alloc {a w : World} (h : Keeps a w) (o : Obj) : Keeps a (w.alloc o) := h.trans fun k hk => Below.heap_alloc w o k hk
theorem Keeps.drew {a w : World} (h : Keeps a w) : Keeps a w.drew := h
def PtB (w : World) (p : Option Addr) (cap : Nat) (l : List UInt8) : Prop :=
 (p = none → cap = 0) ∧ l.length ≤ cap ∧ cap ≤ maxLen ∧ (l ≠ [] → ∃ b off, p = some ⟨b, off, none⟩ ∧ ∀ i, i < l.length → w.cell? ⟨b, off + i, none⟩ = some (.int .u8 ((l.getD i 0).toNat : Int)))
def RdB (w : World) (v : Value) (l : List UInt8) : Prop := ∃ p cap, v = .slice p l.length cap ∧ PtB w p cap l
theorem PtB.at {w : World} {p : Option Addr} {cap : Nat} {l : List UInt8} (h : PtB w p cap l) {k : Nat} (hk : k < l.length) :
 ∃ b off, p = some ⟨b, off, none⟩ ∧ b < w.heap.size ∧ w.cell? ⟨b, off + k, none⟩ = some (.int .u8 ((l.getD k 0).toNat : Int)) := by
 obtain ⟨b, off, rfl, hc⟩ := h.2.2.2 (by rintro rfl; simp at hk)
 exact ⟨b, off, rfl, block_lt_of_cell (hc k hk), hc k hk⟩
theorem PtB.keeps {w w' : World} {p : Option Addr} {cap : Nat} {l : List UInt8} (h : PtB w p cap l) (hb : Keeps w w') : PtB w' p cap l := by
 refine ⟨h.1, h.2.1, h.2.2.1, fun hl => ?_⟩
 obtain ⟨b, off, rfl, hc⟩ := h.2.2.2 hl
 exact ⟨b, off, rfl, fun i hi => hb.cell (hc i hi)⟩
theorem RdB.keeps {w w' : World} {v : Value} {l : List UInt8} (h : RdB w v l) (hb : Keeps w w') : RdB w' v l := by
 obtain ⟨p, cap, rfl, h⟩ := h
 exact ⟨p, cap, rfl, h.keeps hb⟩
theorem PtB.below {w w' : World} {p : Option Addr} {cap : Nat} {l : List UInt8} (h : PtB w p cap l) (hb : Below w.heap.size w w') : PtB w' p cap l := h.keeps hb.block
theorem RdB.below {w w' : World} {v : Value} {l : List UInt8} (h : RdB w v l) (hb : Below w.heap.size w w') : RdB w' v l := h.keeps hb.block
theorem RdB.le {w : World} {v : Value} {l : List UInt8} (h : RdB w v l) : l.length ≤ 9223372036854775807 := by
 obtain ⟨p, cap, rfl, h⟩ := h
 have h1 := h.2.1
 have h2 := h.2.2.1
 unfold maxLen at h2
 omega
def PtV (w : World) (p : Option Addr) (cap : Nat) (vs : List Value) : Prop :=
 (p = none → cap = 0) ∧ vs.length ≤ cap ∧ cap ≤ maxLen ∧ (vs ≠ [] → ∃ b off, p = some ⟨b, off, none⟩ ∧ ∀ i, i < vs.length → w.cell? ⟨b, off + i, none⟩ = some (vs.getD i undef))
theorem PtV.at {w : World} {p : Option Addr} {cap : Nat} {vs : List Value} (h : PtV w p cap vs) {k : Nat} (hk : k < vs.length) :
 ∃ b off, p = some ⟨b, off, none⟩ ∧ b < w.heap.size ∧ w.cell? ⟨b, off + k, none⟩ = some (vs.getD k undef) := by
 obtain ⟨b, off, rfl, hc⟩ := h.2.2.2 (by rintro rfl; simp at hk)
 exact ⟨b, off, rfl, block_lt_of_cell (hc k hk), hc k hk⟩
theorem PtV.keeps {w w' : World} {p : Option Addr} {cap : Nat} {l : List Value} (h : PtV w p cap l) (hb : Keeps w w') : PtV w' p cap l := by
 refine ⟨h.1, h.2.1, h.2.2.1, fun hl => ?_⟩
 obtain ⟨b, off, rfl, hc⟩ := h.2.2.2 hl
 exact ⟨b, off, rfl, fun i hi => hb.cell (hc i hi)⟩
def RdBs (w : World) (v : Value) (ls : List (List UInt8)) : Prop :=
 ∃ p cap vs, v = .slice p vs.length cap ∧ PtV w p cap vs ∧ vs.length = ls.length ∧ ∀ i, i < vs.length → RdB w (vs.getD i undef) (ls.getD i [])
theorem RdBs.keeps {w w' : World} {v : Value} {ls : List (List UInt8)} (h : RdBs w v ls) (hb : Keeps w w') : RdBs w' v ls := by
 obtain ⟨p, cap, vs, rfl, h1, h2, h3⟩ := h
 exact ⟨p, cap, vs, rfl, h1.keeps hb, h2, fun i hi => (h3 i hi).keeps hb⟩
theorem heap_alloc_get (w : World) (o : Obj) (k : Nat) : (w.alloc o).heap[k]? = if k = w.heap.size then some o else w.heap[k]? := by
 show (w.heap.push o)[k]? = _
 rw [Array.getElem?_push]
theorem heap_alloc_size (w : World) (o : Obj) : (w.alloc o).heap.size = w.heap.size + 1 := Array.size_push ..
theorem RdB_of_block {w : World} {b cap n : Nat} {e : TypeId} {fr : Nat × Nat} {cs : Array Value} {l : List UInt8} (hb : w.heap[b]? = some (.cells cs e fr)) (hn : n = l.length) (h1 : n ≤ cap) (h2 : cap ≤ maxLen)
 (hc : ∀ i, i < l.length → cs[i]? = some (.int .u8 ((l.getD i 0).toNat : Int))) : RdB w (.slice (some ⟨b, 0, none⟩) n cap) l := by
 subst hn
 exact ⟨_, _, rfl, ⟨(fun h => by cases h), h1, h2, fun _ => ⟨b, 0, rfl, fun i hi => by rw [cell_of_row _ _ _ _ _ _ hb, Nat.zero_add]; exact hc i hi⟩⟩⟩
theorem getD_of_lt {α : Type} (l : List α) (i : Nat) (d : α) (h : i < l.length) : l.getD i d = l[i] := by simp [List.getD, h]
def IsRow (k : IntKind) (w : World) (a : Option Addr) (len cap : Nat) (zs : List Int) : Prop :=
 (a = none ∧ len = 0 ∧ cap = 0 ∧ zs = []) ∨
 ∃ x, a = some x ∧ len ≤ cap ∧ cap ≤ maxLen ∧ zs.length = cap ∧ (∀ i, i < zs.length → w.cell? (x.add i) = some (.int k (zs.getD i 0))) ∧ ∀ n ∈ zs, (Lit.int k n).wf = true
theorem RdB_of_row {w : World} {a : Option Addr} {len cap : Nat} {zs : List Int} (h : IsRow .u8 w a len cap zs) : ∃ l, l.length = len ∧ RdB w (.slice a len cap) l := by
 rcases h with ⟨rfl, rfl, rfl, rfl⟩ | ⟨x, rfl, h1, h2, h3, h4, h5⟩
 · exact ⟨[], rfl, _, _, rfl, ⟨fun _ => rfl, Nat.le_refl _, by unfold maxLen; omega, fun h => absurd rfl h⟩⟩
 · have hlen : ((zs.take len).map fun z => UInt8.ofNat z.toNat).length = len := by simp; omega
   refine ⟨(zs.take len).map fun z => UInt8.ofNat z.toNat, hlen, some x, cap, by rw [hlen], ⟨(fun h => by cases h), by omega, h2, fun hl => ?_⟩⟩
   have hpos : 0 < len := by rcases Nat.eq_zero_or_pos len with e | e; · subst e; simp at hl
                             · exact e
   have hc0 := h4 0 (by omega)
   obtain ⟨b, off, sp⟩ := x
   have hsp : sp = none := by
    unfold Addr.add at hc0
    simp only [if_true, World.cell?] at hc0
    split at hc0
    · split at hc0
      · cases hc0
      · rename_i hs; simpa using hs
    · cases hc0
   subst hsp
   refine ⟨b, off, rfl, fun i hi => ?_⟩
   rw [hlen] at hi
   have hc := h4 i (by omega)
   have hadd : (⟨b, off, none⟩ : Addr).add i = ⟨b, off + i, none⟩ := by unfold Addr.add; split <;> simp_all
   rw [hadd] at hc
   rw [hc]
   have hwf := h5 (zs.getD i 0) (by rw [getD_of_lt _ _ _ (show i < zs.length by omega)]; exact List.getElem_mem _)
   have hbd : 0 ≤ zs.getD i 0 ∧ zs.getD i 0 ≤ 255 := by simpa [Lit.wf, IntKind.min, IntKind.max, IntKind.signed, IntKind.bits] using hwf
   have e : ((zs.take len).map fun z => UInt8.ofNat z.toNat).getD i 0 = UInt8.ofNat (zs.getD i 0).toNat := by
    rw [getD_of_lt _ _ _ (by rw [hlen]; exact hi), List.getElem_map, List.getElem_take, getD_of_lt _ _ _ (show i < zs.length by omega)]
   rw [e]
   simp only [UInt8.toNat_ofNat']
   congr 2
   omega
theorem Below_setRow {B : Nat} {a w : World} (h : Below B a w) {g : Nat} (hg : B ≤ g) (cs : Array Value) : Below B a (w.setRow g cs) :=
 h.trans ⟨rfl, rfl, rfl, by simp, fun k hk => setRow_other w g k cs (by omega)⟩
structure Elem (P : Program) (t e : TypeId) (z : Value) (size bytes : Nat) : Prop where
 sl : P.underlying t = some (.slice e)
 info : (P.info? e).map (fun i => (i.zero, i.size, i.bytes)) = some (some z, size, bytes)
 zs : z.cells.size = size
 pos : 0 < size
theorem own_below {w w' : World} {base : Nat} {e : TypeId} {size : Nat} {v : Value} {n : Nat} {xs : List Value} (h : w.ownsRow base e size v n xs) (hb : Below w.heap.size w w') : w'.ownsRow base e size v n xs := by
 refine ⟨h.1, ?_⟩
 rcases h.2 with h2 | ⟨g, cap, cur, hv, hg, hh, r⟩
 · exact .inl h2
 · exact .inr ⟨g, cap, cur, hv, hg, by rw [hb.block g (Array.getElem?_eq_some_iff.1 hh).1]; exact hh, r⟩
theorem below_grown {w w' : World} {row : Option Nat} (hg : w.grownBy w' row) (B : Nat) (hB : B ≤ w.heap.size) (hr : ∀ k, row = some k → B ≤ k) : Below B w w' :=
 (Below.refl B w).grown hg hB hr
theorem below_own {w w' : World} {base : Nat} {e : TypeId} {size : Nat} {v : Value} {n : Nat} {xs : List Value} (h : w.ownsRow base e size v n xs) (hg : w.grownBy w' v.ownBlock) (hB : base ≤ w.heap.size) : Below base w w' :=
 below_grown hg base hB (fun k hk => (h.lt k hk).1)
def SrcR (w : World) (size : Nat) (x : Value) (m : Nat) (news : List Value) : Prop :=
 ∃ p c, x = .slice p m c ∧ news.length = m * size ∧ (∀ u ∈ news, u.oneCell' = true) ∧ ((p = none ∧ m = 0 ∧ c = 0) ∨ ∃ a, p = some a ∧ ∀ j u, news[j]? = some u → w.cell? (a.add j) = some u)
section
variable {P : Program} {ops : Array Oper} {rest : List Oper} {o : Oper} {a : Act} {w : World} {Q : Exit → Act → World → Prop}
theorem run_append_src {base : Nat} {t ty e : TypeId} {z : Value} {size bytes : Nat} (he : Elem P t e z size bytes)
 {v : Value} {n : Nat} {xs : List Value} (hown : w.ownsRow base e size v n xs) {x : Value} {m : Nat} {news : List Value} (hsrc : SrcR w size x m news)
 (h63 : n + m ≤ maxLen) (hbytes : (n + m) * bytes ≤ 140737488355328) (hbase : base ≤ w.heap.size) :
 ∃ v' w', (Builtin.append_ #[t, t] ty #[v, x]).run P w = .ok v' w' ∧ w'.ownsRow base e size v' (n + m) (xs ++ news) ∧ w.grownBy w' v.ownBlock := by
 obtain ⟨i, hi, hz, hs, hb⟩ := info_parts he.info
 obtain ⟨p, c, rfl, hl, h1, hp⟩ := hsrc
 rcases hp with ⟨rfl, rfl, rfl⟩ | ⟨ad, rfl, hnews⟩
 · have hn : news = [] := List.eq_nil_of_length_eq_zero (by simpa using hl)
   subst hn
   exact ⟨v, w, run_append_owned_none w base t ty e i size he.sl hi v n xs hown, by simpa using hown, World.grownBy.refl _ _⟩
 · obtain ⟨v', w', h2, h3, h4, _⟩ := run_append_own (P := P) w base t ty e i z size bytes he.sl hi hz hs hb he.zs he.pos v n xs hown ad m c news hl hnews h1 h63 hbytes hbase
   exact ⟨v', w', h2, h3, h4⟩
theorem wpList_append_src (hgd : o.guard = none) (s x : Operand) (t : TypeId) (ho : o.op = .call { callee := .builtin .append, args := #[s, x], argTypes := #[t, t] })
 {base : Nat} {e : TypeId} {z : Value} {size bytes : Nat} (he : Elem P t e z size bytes)
 {v : Value} {n : Nat} {xs : List Value} (hs : a.eval s = v) (hown : w.ownsRow base e size v n xs) {xv : Value} {m : Nat} {news : List Value} (hx : a.eval x = xv) (hsrc : SrcR w size xv m news)
 (h63 : n + m ≤ maxLen) (hbytes : (n + m) * bytes ≤ 140737488355328) (hbase : base ≤ w.heap.size)
 (h : ∀ v' w', w'.ownsRow base e size v' (n + m) (xs ++ news) → w.grownBy w' v.ownBlock → wpList P ops Q rest (a.put o.dst v') w') : wpList P ops Q (o :: rest) a w := by
 refine wpList_plain hgd fun _ hK => ?_
 obtain ⟨v', w', hr, h2, h3⟩ := run_append_src (ty := o.type) he hown hsrc h63 hbytes hbase
 unfold Oper.wp execOp
 simp only [ho, resolve, invoke, builtin, Sem.run_bind, Sem.run_pure, Result.andThen_ok, List.map_toArray, List.map_cons, List.map_nil, hs, hx, hr]
 exact hK _ _ (h v' w' h2 h3)
end
def OB (w : World) (base : Nat) (e : TypeId) (v : Value) (l : List UInt8) : Prop := w.ownsRow base e 1 v l.length (l.map vb)
theorem OB.keeps {w w' : World} {base : Nat} {e : TypeId} {v : Value} {l : List UInt8} (h : OB w base e v l) (hb : Keeps w w') : OB w' base e v l := by
 refine ⟨h.1, ?_⟩
 rcases h.2 with h2 | ⟨g, cap, cur, hv, hg, hh, r⟩
 · exact .inl h2
 · exact .inr ⟨g, cap, cur, hv, hg, by rw [hb g (Array.getElem?_eq_some_iff.1 hh).1]; exact hh, r⟩
theorem OB.below {w w' : World} {base : Nat} {e : TypeId} {v : Value} {l : List UInt8} (h : OB w base e v l) (hb : Below w.heap.size w w') : OB w' base e v l := own_below h hb
theorem OB.rd {w : World} {base : Nat} {e : TypeId} {v : Value} {l : List UInt8} (h : OB w base e v l) : RdB w v l := by
 rcases h.2 with ⟨rfl, hn⟩ | ⟨g, cap, cur, rfl, hg, hh, h1, h2, h3, h4⟩
 · have : l = [] := List.eq_nil_of_length_eq_zero hn
   subst this
   exact ⟨none, 0, rfl, ⟨fun _ => rfl, Nat.le_refl _, by unfold maxLen; omega, fun h => absurd rfl h⟩⟩
 · refine ⟨_, _, rfl, ⟨(fun h => by cases h), h1, h2, fun _ => ⟨g, 0, rfl, fun i hi => ?_⟩⟩⟩
   rw [cell_of_row _ _ _ _ _ _ hh, Nat.zero_add]
   have h5 : (l.map vb)[i]? = some (vb (l.getD i 0)) := by rw [List.getElem?_map, List.getElem?_eq_getElem hi, getD_of_lt _ _ _ hi]; rfl
   rw [← h4, List.getElem?_take, if_pos (by omega)] at h5
   simpa [vb] using h5
theorem OB.set {w : World} {base : Nat} {e : TypeId} {g cap n : Nat} {l : List UInt8} (h : OB w base e (.slice (some ⟨g, 0, none⟩) n cap) l) (hn : n = l.length) (j : Nat) (b : UInt8) :
 OB (w.setCell ⟨g, j, none⟩ (.int .u8 (b.toNat : Int))) base e (.slice (some ⟨g, 0, none⟩) n cap) (l.set j b) := by
 subst hn
 have := (World.ownsRow.stored h j (vb b)).1
 unfold OB
 rw [List.length_set, List.map_set]
 exact this
theorem OB.cell {w : World} {base : Nat} {e : TypeId} {g cap n : Nat} {l : List UInt8} (h : OB w base e (.slice (some ⟨g, 0, none⟩) n cap) l) (hn : n = l.length) {j : Nat} (hj : j < l.length) :
 w.cell? ⟨g, j, none⟩ = some (.int .u8 ((l.getD j 0).toNat : Int)) ∧ w.frozen? ⟨g, j, none⟩ = false ∧ g < w.heap.size ∧ base ≤ g := by
 subst hn
 refine ⟨?_, World.ownsRow.frozenAt h j, (h.lt g rfl).2, (h.lt g rfl).1⟩
 rw [World.ownsRow.cellAt h j (by omega), List.getElem?_map, List.getElem?_eq_getElem hj, getD_of_lt _ _ _ hj]
 rfl
theorem OB.new (w : World) (e : TypeId) : OB (w.alloc (.cells #[] e)) w.heap.size e (.slice (some ⟨w.heap.size, 0, none⟩) 0 0) [] :=
 World.ownsRow_lit w #[] 0 (Nat.le_refl _) (by unfold maxLen; omega) rfl
theorem OB.nil (w : World) (base : Nat) (e : TypeId) : OB w base e (.slice none 0 0) [] := World.ownsRow_nil w base e 1
theorem RdB.src {w : World} {v : Value} {l : List UInt8} (h : RdB w v l) : SrcR w 1 v l.length (l.map vb) := by
 obtain ⟨p, cap, rfl, h1, h2, h3, h4⟩ := h
 refine ⟨p, cap, rfl, by simp, by simp [vb, Value.oneCell'], ?_⟩
 cases p with
 | none =>
  have hc := h1 rfl
  exact .inl ⟨rfl, by omega, hc⟩
 | some ad =>
  refine .inr ⟨ad, rfl, fun j u hu => ?_⟩
  have hj : j < l.length := by
   have := (List.getElem?_eq_some_iff.1 hu).1
   simpa using this
  obtain ⟨b, off, hp, hc⟩ := h4 (by rintro rfl; simp at hj)
  cases hp
  have hadd : (⟨b, off, none⟩ : Addr).add j = ⟨b, off + j, none⟩ := by unfold Addr.add; split <;> simp_all
  rw [hadd, hc j hj]
  rw [List.getElem?_map, List.getElem?_eq_getElem hj] at hu
  rw [getD_of_lt _ _ _ hj]
  simpa [vb] using hu
section
variable {P : Program} {ops : Array Oper} {rest : List Oper} {o : Oper} {a : Act} {w : World} {Q : Exit → Act → World → Prop}
theorem OB.form {w : World} {base : Nat} {e : TypeId} {v : Value} {l : List UInt8} (h : OB w base e v l) : ∃ p c, v = .slice p l.length c := by
 rcases h.2 with ⟨rfl, hn⟩ | ⟨g, cap, cur, rfl, _⟩
 · exact ⟨none, 0, by rw [hn]⟩
 · exact ⟨_, _, rfl⟩
theorem OB.some {w : World} {base : Nat} {e : TypeId} {p : Option Addr} {n c : Nat} {l : List UInt8} (h : OB w base e (.slice p n c) l) (hn : n ≠ 0) : ∃ g, p = some ⟨g, 0, none⟩ ∧ base ≤ g := by
 rcases h.2 with ⟨h1, _⟩ | ⟨g, cap, cur, h1, h2, _⟩
 · cases h1; exact absurd rfl hn
 · cases h1; exact ⟨g, rfl, h2⟩
theorem wpList_append_bytes (hgd : o.guard = none) (s x : Operand) (t : TypeId) (ho : o.op = .call { callee := .builtin .append, args := #[s, x], argTypes := #[t, t] })
 {base : Nat} {e : TypeId} (he : Elem P t e (.int .u8 0) 1 1)
 {v : Value} {l : List UInt8} (hs : a.eval s = v) (hown : OB w base e v l) {xv : Value} {m : List UInt8} (hx : a.eval x = xv) (hsrc : RdB w xv m)
 (hlen : l.length + m.length ≤ 140737488355328) (hbase : base ≤ w.heap.size)
 (h : ∀ p n c w', n = (l ++ m).length → OB w' base e (.slice p n c) (l ++ m) → w.grownBy w' v.ownBlock → wpList P ops Q rest (a.put o.dst (.slice p n c)) w') : wpList P ops Q (o :: rest) a w :=
 wpList_append_src hgd s x t ho he hs hown hx hsrc.src (by unfold maxLen; omega) (by omega) hbase (fun v' w' h1 h2 => by
  have h3 : OB w' base e v' (l ++ m) := by unfold OB; rw [List.map_append, List.length_append]; exact h1
  obtain ⟨p, c, rfl⟩ := h3.form
  exact h p _ c w' rfl h3 h2)
end
section
variable {P : Program}
theorem Addr_add_zero (a : Addr) : a.add 0 = a := rfl
theorem run_slice_hi (t e : TypeId) (ht : P.underlying t = some (.slice e)) (sz : Nat) (hsz : (P.info? e).map (·.size) = some sz) (p : Option Addr) (len cap : Nat) (h : Nat) (hh : h ≤ cap) (w : World) :
 (Instr.sliceAt t (.slice p len cap) none (some (.int .i64 (h : Int))) none).run P w = .ok (.slice p h cap) w := by
 obtain ⟨i, hi, hsi⟩ := Option.map_eq_some_iff.1 hsz
 have e1 : (p.map fun x => x.add (0 * sz)) = p := by cases p <;> simp [Addr_add_zero]
 have hb : (0 : Int) ≤ (h : Int) ∧ (h : Int) ≤ (cap : Int) := by omega
 simp [Instr.sliceAt, Instr.slice, Instr.sliceBounds, Instr.sliceBound, asIntOf, Sem.run_bind, run_underlying ht, sizeOf, typeInfo, hi, hh, Addr_add_zero]
theorem run_slice_lo (t e : TypeId) (ht : P.underlying t = some (.slice e)) (sz : Nat) (hsz : (P.info? e).map (·.size) = some sz) (p : Option Addr) (len cap : Nat) (l : Nat) (hl : l ≤ len) (w : World) :
 (Instr.sliceAt t (.slice p len cap) (some (.int .i64 (l : Int))) none none).run P w = .ok (.slice (if cap = l then p else p.map (·.add (l * sz))) (len - l) (cap - l)) w := by
 obtain ⟨i, hi, hsi⟩ := Option.map_eq_some_iff.1 hsz
 simp [Instr.sliceAt, Instr.slice, Instr.sliceBounds, Instr.sliceBound, asIntOf, Sem.run_bind, run_underlying ht, sizeOf, typeInfo, hi, hsi, hl]
end
theorem PtB.take {w : World} {p : Option Addr} {cap : Nat} {l : List UInt8} (h : PtB w p cap l) (n : Nat) : PtB w p cap (l.take n) := by
 refine ⟨h.1, by rw [List.length_take]; have := h.2.1; omega, h.2.2.1, fun hl => ?_⟩
 obtain ⟨b, off, rfl, hc⟩ := h.2.2.2 (by rintro rfl; simp at hl)
 refine ⟨b, off, rfl, fun i hi => ?_⟩
 rw [List.length_take] at hi
 rw [hc i (by omega)]
 congr 4
 simp only [List.getD, List.getElem?_take, show i < n by omega, if_true]
end Go.Proofs.Yteellfgiejnigaa
namespace Go.Proofs.Yteellfgiejnigaa.RegT
set_option linter.unusedVariables false
open Go Go.RowKit
def OpOK (P : Program) (r : Result Next) (post : Value → World → Prop) : Prop :=
 match r with
 | .ok (.value v) w' => post v w'
 | .ok .skip w' => post undef w'
 | .ok (.enter f args) w' => Calls P f args w' fun e w'' => match e with | .returned v => post v w'' | _ => False
 | _ => False
theorem OpOK_mono {P : Program} {r : Result Next} {post post' : Value → World → Prop} (h : OpOK P r post) (hp : ∀ v w, post v w → post' v w) : OpOK P r post' := by
 unfold OpOK at *
 split at h
 iterate 2
  · exact hp _ _ h
 · exact Calls.mono h fun e w' he => by
    cases e with
    | returned v => exact hp _ _ he
    | _ => exact he
 · exact h.elim
structure Spec where
 writes : Bool
 cons : Option Nat
 val : Sum Value (Value → World → Prop)
abbrev Kind := Option Spec
abbrev pureK : Kind := none
abbrev constK (c : Value) : Kind := some ⟨false, none, .inl c⟩
abbrev predK (Φ : Value → World → Prop) : Kind := some ⟨false, none, .inr Φ⟩
def Grow (x y : World) : Prop := Below x.heap.size x y
theorem Grow.refl (x : World) : Grow x x := RowKit.Below.refl _ _
theorem Grow.trans (x y z : World) (h : Grow x y) (k : Grow y z) : Grow x z := RowKit.Below.trans h (RowKit.Below.mono k h.size)
def step (writes : Bool) (R : World → World → Prop) (x y : World) : Prop := R x y ∧ (writes = false → Grow x y)
def pre (ops : Array Oper) (i k : Nat) : Bool := ((Region.before ops).getD i 0).testBit k
def isSelect : Op → Bool | .select .. => true | _ => false
def form (ops : Array Oper) (m np : Nat) : Bool :=
 decide (np ≤ ops.size) && ((List.range ops.size).all fun i => decide (i < np) || (List.range i).all fun j => pre ops i j) &&
 (List.range ops.size).all fun i =>
   let o := ops.getD i default
   !isSelect o.op &&
   (o.after.all fun e => !Region.binds .any e || decide (e.on < i)) &&
   (match o.dst with | some d => decide (d < m) && (List.range ops.size).all fun k => k == i || (ops.getD k default).dst != some d | none => true) &&
   (o.looksAt ops).all fun s => (List.range ops.size).all fun k => (ops.getD k default).dst != some s || k == i || pre ops i k || pre ops k i
structure Fact where
 who : Nat
 what : Value → World → Prop
 cons : Option Nat
 val : Value
def given (ops : Array Oper) (i : Nat) (env : List Fact) (w : World) : Prop := ∀ x ∈ env, pre ops i x.who = true → (x.cons = none ∨ x.cons = some i) → x.what x.val w
def left (np : Nat) (env : List Fact) (w : World) : Prop := ∀ x ∈ env, (x.cons = none ∨ ∃ i, x.cons = some i ∧ np ≤ i) → x.what x.val w
def T (P : Program) (ops : Array Oper) (R : World → World → Prop) (w0 : World) (Q : Exit → Act → World → Prop) : List Kind → Nat → Act → List Fact → Prop
 | [], i, a, env => ∀ w, R w0 w → left i env w → wpList P ops Q (ops.toList.drop i) a w
 | none :: ks, i, a, env => ∃ o, ops[i]? = some o ∧ ∃ v, ((Region.wanted o (yielded ops a.tmps) = true ∧ ∀ w, R w0 w → (execOp a.eval o).run P w = .ok (.value v) w) ∨ (Region.wanted o (yielded ops a.tmps) = false ∧ v = undef)) ∧
  T P ops R w0 Q ks (i + 1) (a.put o.dst v) env
 | some ⟨wr, _, .inl c⟩ :: ks, i, a, env => ∃ o, ops[i]? = some o ∧ Region.wanted o (yielded ops a.tmps) = true ∧
  (∀ w, R w0 w → given ops i env w → OpOK P ((execOp a.eval o).run P w) fun v w' => v = c ∧ step wr R w w') ∧ T P ops R w0 Q ks (i + 1) (a.put o.dst c) env
 | some ⟨wr, cons, .inr Φ⟩ :: ks, i, a, env => (∀ v x y, Grow x y → Φ v x → Φ v y) ∧ ∃ o, ops[i]? = some o ∧ Region.wanted o (yielded ops a.tmps) = true ∧
  (∀ w, R w0 w → given ops i env w → OpOK P ((execOp a.eval o).run P w) fun v w' => Φ v w' ∧ step wr R w w') ∧ ∀ v, T P ops R w0 Q ks (i + 1) (a.put o.dst v) (⟨i, Φ, cons, v⟩ :: env)
def wok (ops : Array Oper) (L : List Kind) : Bool :=
 (List.range L.length).all fun k => match L.getD k none with
   | some ⟨true, _, _⟩ => (List.range L.length).all fun j => match L.getD j none with
    | some ⟨_, cons, .inr _⟩ => j == k || pre ops j k || (match cons with | some i => k == i || pre ops k i | none => false)
    | _ => true
   | _ => true
section
variable {ops : Array Oper}
def rowOf (acc : Array Nat) (o : Oper) : Nat := o.after.foldl (fun s e => if Region.binds .any e then s ||| 2 ^ e.on ||| acc.getD e.on 0 else s) 0
def rows (l : List Oper) (acc : Array Nat) : Array Nat := l.foldl (fun acc o => acc.push (rowOf acc o)) acc
theorem before_eq : Region.before ops = rows ops.toList #[] := by
 unfold Region.before rows rowOf
 rw [Array.foldl_toList]
theorem rows_size (l : List Oper) : ∀ acc, (rows l acc).size = acc.size + l.length := by
 induction l with
 | nil => intro acc; simp [rows]
 | cons o l ih => intro acc; simp only [rows, List.foldl_cons] at *; rw [ih]; simp; omega
theorem rows_old (l : List Oper) : ∀ acc i, i < acc.size → (rows l acc).getD i 0 = acc.getD i 0 := by
 induction l with
 | nil => intro acc i _; rfl
 | cons o l ih =>
  intro acc i h
  simp only [rows, List.foldl_cons] at *
  rw [ih _ i (by simp; omega)]
  simp [Array.getD, Array.getElem_push, h, Nat.lt_succ_of_lt h]
theorem rows_append (l r : List Oper) (acc : Array Nat) : rows (l ++ r) acc = rows r (rows l acc) := by simp [rows]
theorem rows_at (l : List Oper) (i : Nat) (o : Oper) (h : l[i]? = some o) : (rows l #[]).getD i 0 = rowOf (rows (l.take i) #[]) o := by
 obtain ⟨hi, ho⟩ := List.getElem?_eq_some_iff.1 h
 have e : l = l.take i ++ (o :: l.drop (i + 1)) := by rw [← ho]; simp
 have hs : (rows (l.take i) #[]).size = i := by rw [rows_size]; simp; omega
 conv => lhs; rw [e, rows_append]
 show (rows (l.drop (i + 1)) ((rows (l.take i) #[]).push (rowOf (rows (l.take i) #[]) o))).getD i 0 = _
 rw [rows_old _ _ _ (by simp [hs])]
 rw [Array.getD_eq_getD_getElem?, Array.getElem?_push, hs, if_pos rfl]; rfl
theorem fold_bit (acc : Array Nat) (k : Nat) (l : List Edge) : ∀ s, (l.foldl (fun s e => if Region.binds .any e then s ||| 2 ^ e.on ||| acc.getD e.on 0 else s) s).testBit k = true →
 s.testBit k = true ∨ ∃ e ∈ l, Region.binds .any e = true ∧ (e.on = k ∨ (acc.getD e.on 0).testBit k = true) := by
 induction l with
 | nil => intro s h; exact .inl h
 | cons e l ih =>
  intro s h
  simp only [List.foldl_cons] at h
  rcases ih _ h with h | ⟨e', he', h'⟩
  · split at h
    · rename_i hb
      simp only [Nat.testBit_or, Nat.testBit_two_pow, Bool.or_eq_true, decide_eq_true_eq] at h
      rcases h with (h | h) | h
      · exact .inl h
      · exact .inr ⟨e, by simp, hb, .inl h⟩
      · exact .inr ⟨e, by simp, hb, .inr h⟩
    · exact .inl h
  · exact .inr ⟨e', by simp [he'], h'⟩
theorem pre_step (hback : ∀ (i : Nat) (o : Oper), ops[i]? = some o → ∀ e ∈ o.after.toList, Region.binds .any e = true → e.on < i) {i k : Nat} (h : pre ops i k = true) :
 ∃ o, ops[i]? = some o ∧ ∃ e ∈ o.after.toList, Region.binds .any e = true ∧ e.on < i ∧ (e.on = k ∨ pre ops e.on k = true) := by
 unfold pre at h
 rw [before_eq] at h
 cases ho : ops[i]? with
 | none =>
  have hs : ops.size ≤ i := by simpa using ho
  rw [Array.getD, dif_neg (by rw [rows_size]; simp; omega)] at h
  simp at h
 | some o =>
  have ho' : ops.toList[i]? = some o := by simpa using ho
  rw [rows_at _ _ _ ho'] at h
  unfold rowOf at h
  rw [← Array.foldl_toList] at h
  rcases fold_bit _ _ _ _ h with h | ⟨e, he, hb, h'⟩
  · simp at h
  · have hlt := hback i o ho e he hb
    refine ⟨o, rfl, e, he, hb, hlt, h'.imp id fun h'' => ?_⟩
    unfold pre
    rw [before_eq]
    have hi : i ≤ ops.toList.length := by have := (List.getElem?_eq_some_iff.1 ho').1; omega
    have hsz : e.on < (rows (ops.toList.take i) #[]).size := by rw [rows_size]; simp at hi ⊢; omega
    have e1 : (rows ops.toList #[]).getD e.on 0 = (rows (ops.toList.take i) #[]).getD e.on 0 := by
     conv => lhs; rw [← List.take_append_drop i ops.toList, rows_append]
     exact rows_old _ _ _ hsz
    rw [e1]; exact h''
theorem pre_lt (hback : ∀ (i : Nat) (o : Oper), ops[i]? = some o → ∀ e ∈ o.after.toList, Region.binds .any e = true → e.on < i) (i k : Nat) (h : pre ops i k = true) : k < i := by
 induction i using Nat.strongRecOn with
 | ind i ih =>
  obtain ⟨o, _, e, _, _, hlt, h' | h'⟩ := pre_step hback h
  · omega
  · have := ih e.on hlt h'; omega
def Closed (ops : Array Oper) (listed : Array Bool) : Prop := ∀ (i : Nat) (o : Oper), ops[i]? = some o → listed.getD i false = true → ∀ e ∈ o.after.toList, Region.binds .any e = true → listed.getD e.on false = true
theorem pre_listed (hback : ∀ (i : Nat) (o : Oper), ops[i]? = some o → ∀ e ∈ o.after.toList, Region.binds .any e = true → e.on < i) {listed : Array Bool} (hc : Closed ops listed) (i : Nat) :
 (∀ (o : Oper), ops[i]? = some o → ∀ e ∈ o.after.toList, Region.binds .any e = true → listed.getD e.on false = true) → ∀ k, pre ops i k = true → listed.getD k false = true := by
 induction i using Nat.strongRecOn with
 | ind i ih =>
  intro hi k h
  obtain ⟨o, ho, e, he, hb, hlt, h' | h'⟩ := pre_step hback h
  · subst h'; exact hi o ho e he hb
  · exact ih e.on hlt (fun o' ho' e' he' hb' => hc e.on o' ho' (hi o ho e he hb) e' he' hb') k h'
end
section
variable (P : Program) (ops : Array Oper) (w0 : World) (a0 : Act) (ks : Nat → Kind)
def valOf : Result Next → Value
 | .ok (.value v) _ => v
 | _ => undef
def nextV (k : Kind) (o : Oper) (a : Act) (u : Value) : Value :=
 match k with
 | none => if Region.wanted o (yielded ops a.tmps) = true then valOf ((execOp a.eval o).run P w0) else undef
 | some ⟨_, _, .inl c⟩ => c
 | some ⟨_, _, .inr _⟩ => u
def A (u : Nat → Value) : Nat → Act
 | 0 => a0
 | i + 1 => (A u i).put (ops.getD i default).dst (nextV P ops w0 (ks i) (ops.getD i default) (A u i) (u i))
def V (u : Nat → Value) (i : Nat) : Value := nextV P ops w0 (ks i) (ops.getD i default) (A P ops w0 a0 ks u i) (u i)
end
theorem getD_put_same (a : Act) (d : Tmp) (v : Value) (h : d < a.tmps.size) : (a.put (some d) v).tmps.getD d undef = v := by
 simp [Act.put, Array.getD, h]
theorem getD_put_ne (a : Act) (x : Option Tmp) (s : Tmp) (v : Value) (h : x ≠ some s) : (a.put x v).tmps.getD s undef = a.tmps.getD s undef := by
 cases x with
 | none => rfl
 | some d =>
  have hne : d ≠ s := fun e => h (e ▸ rfl)
  simp [Act.put, Array.getD_eq_getD_getElem?, Array.getElem?_setIfInBounds_ne hne]
theorem size_put (a : Act) (x : Option Tmp) (v : Value) : (a.put x v).tmps.size = a.tmps.size := by cases x <;> simp [Act.put]
theorem defers_put (a : Act) (x : Option Tmp) (v : Value) : (a.put x v).defers = a.defers := by cases x <;> rfl
structure Form (ops : Array Oper) (m np : Nat) : Prop where
 le : np ≤ ops.size
 tail : ∀ (i j : Nat), np ≤ i → i < ops.size → j < i → pre ops i j = true
 sel : ∀ (i : Nat) (o : Oper), ops[i]? = some o → ∀ cs b, o.op ≠ Op.select cs b
 back : ∀ (i : Nat) (o : Oper), ops[i]? = some o → ∀ e ∈ o.after.toList, Region.binds .any e = true → e.on < i
 room : ∀ (i : Nat) (o : Oper) (d : Tmp), ops[i]? = some o → o.dst = some d → d < m
 one : ∀ (i : Nat) (o : Oper) (d : Tmp), ops[i]? = some o → o.dst = some d → ∀ (k : Nat) (o' : Oper), ops[k]? = some o' → o'.dst = some d → k = i
 look : ∀ (i : Nat) (o : Oper), ops[i]? = some o → ∀ s ∈ o.looksAt ops, ∀ (k : Nat) (o' : Oper), ops[k]? = some o' → o'.dst = some s → k = i ∨ pre ops i k = true ∨ pre ops k i = true
theorem getD_of_get {ops : Array Oper} {i : Nat} {o : Oper} (h : ops[i]? = some o) : ops.getD i default = o := by
 simp [Array.getD_eq_getD_getElem?, h]
theorem form_open {ops : Array Oper} {m np : Nat} (h : form ops m np = true) : Form ops m np := by
 unfold form at h
 rw [Bool.and_eq_true, Bool.and_eq_true] at h
 obtain ⟨⟨hle, htail⟩, h⟩ := h
 have hall : ∀ (i : Nat) (o : Oper), ops[i]? = some o → (!isSelect o.op &&
  (o.after.all fun e => !Region.binds .any e || decide (e.on < i)) &&
  (match o.dst with | some d => decide (d < m) && (List.range ops.size).all fun k => k == i || (ops.getD k default).dst != some d | none => true) &&
  (o.looksAt ops).all fun s => (List.range ops.size).all fun k => (ops.getD k default).dst != some s || k == i || pre ops i k || pre ops k i) = true := by
  intro i o ho
  have hi : i < ops.size := (Array.getElem?_eq_some_iff.1 ho).1
  have := List.all_eq_true.1 h i (List.mem_range.2 hi)
  simpa only [getD_of_get ho] using this
 refine ⟨by simpa using hle, fun i j h1 h2 h3 => ?_, ?_, ?_, ?_, ?_, ?_⟩
 · have := List.all_eq_true.1 htail i (List.mem_range.2 h2)
   rw [Bool.or_eq_true] at this
   rcases this with h | h
   · have := of_decide_eq_true h; omega
   · exact List.all_eq_true.1 h j (List.mem_range.2 h3)
 · intro i o ho cs b e
   have := hall i o ho
   simp [isSelect, e] at this
 · intro i o ho e he hb
   have := hall i o ho
   simp only [Bool.and_eq_true, Array.all_eq_true'] at this
   have h2 := this.1.1.2 e (by simpa using he)
   simpa [hb] using h2
 · intro i o d ho hd
   have := hall i o ho
   simp only [Bool.and_eq_true, hd] at this
   simpa using this.1.2.1
 · intro i o d ho hd k o' ho' hd'
   have := hall i o ho
   simp only [Bool.and_eq_true, hd] at this
   have h2 := List.all_eq_true.1 this.1.2.2 k (List.mem_range.2 (Array.getElem?_eq_some_iff.1 ho').1)
   rw [getD_of_get ho', hd'] at h2
   simpa using h2
 · intro i o ho s hs k o' ho' hd'
   have := hall i o ho
   simp only [Bool.and_eq_true] at this
   have h2 := List.all_eq_true.1 (List.all_eq_true.1 this.2 s hs) k (List.mem_range.2 (Array.getElem?_eq_some_iff.1 ho').1)
   rw [getD_of_get ho', hd'] at h2
   simpa [or_assoc] using h2
section
variable {P : Program} {ops : Array Oper} {w0 : World} {a0 : Act} {ks : Nat → Kind}
theorem A_size (u : Nat → Value) (i : Nat) : (A P ops w0 a0 ks u i).tmps.size = a0.tmps.size := by
 induction i with
 | zero => rfl
 | succ i ih => rw [A, size_put, ih]
theorem A_defers (u : Nat → Value) (i : Nat) : (A P ops w0 a0 ks u i).defers = a0.defers := by
 induction i with
 | zero => rfl
 | succ i ih => rw [A, defers_put, ih]
theorem A_old (u : Nat → Value) (s : Tmp) (i : Nat) (h : ∀ (k : Nat) (o : Oper), k < i → ops[k]? = some o → o.dst ≠ some s) (hi : i ≤ ops.size) : (A P ops w0 a0 ks u i).tmps.getD s undef = a0.tmps.getD s undef := by
 induction i with
 | zero => rfl
 | succ i ih =>
  have ho : ops[i]? = some ops[i] := Array.getElem?_eq_getElem (by omega)
  rw [A, getD_of_get ho, getD_put_ne _ _ _ _ (h i _ (by omega) ho)]
  exact ih (fun k o hk => h k o (by omega)) (by omega)
theorem A_new {np : Nat} (F : Form ops a0.tmps.size np) (u : Nat → Value) (k : Nat) (o : Oper) (d : Tmp) (ho : ops[k]? = some o) (hd : o.dst = some d) (i : Nat) (hk : k < i) (hi : i ≤ ops.size) :
 (A P ops w0 a0 ks u i).tmps.getD d undef = V P ops w0 a0 ks u k := by
 induction i with
 | zero => omega
 | succ i ih =>
  have hoi : ops[i]? = some ops[i] := Array.getElem?_eq_getElem (by omega)
  by_cases e : k = i
  · subst e
    rw [A, getD_of_get ho, hd, getD_put_same _ _ _ (by rw [A_size]; exact F.room k o d ho hd)]
    unfold V; rw [getD_of_get ho]
  · rw [A, getD_of_get hoi, getD_put_ne _ _ _ _ (fun hc => e (F.one i _ d hoi hc k o ho hd))]
    exact ih (by omega) (by omega)
theorem eval_looks {ops : Array Oper} {o : Oper} {a a' : Act} (h : ∀ s ∈ o.looksAt ops, a.tmps.getD s undef = a'.tmps.getD s undef) : ∀ x ∈ o.op.operands, a.eval x = a'.eval x := by
 intro x hx
 cases x with
 | tmp t => exact h t (List.mem_append_left _ (List.mem_filterMap.2 ⟨.tmp t, by simpa using hx, rfl⟩))
 | _ => rfl
theorem wanted_looks {ops : Array Oper} {o : Oper} {a a' : Act} (hs : a.tmps.size = a'.tmps.size) (h : ∀ s ∈ o.looksAt ops, a.tmps.getD s undef = a'.tmps.getD s undef) :
 Region.wanted o (yielded ops a.tmps) = Region.wanted o (yielded ops a'.tmps) := by
 unfold Region.wanted
 cases hg : o.guard with
 | none => rfl
 | some gw =>
  obtain ⟨g, want⟩ := gw
  have hy : yielded ops a.tmps g = yielded ops a'.tmps g := by
   unfold yielded
   cases ht : (ops[g]?).bind (·.dst) with
   | none => rfl
   | some t =>
    have := h t (by simp [Oper.looksAt, hg, ht])
    by_cases hb : t < a.tmps.size
    · have hb' : t < a'.tmps.size := hs ▸ hb
      simp only [Option.bind_some, Array.getElem?_eq_getElem hb, Array.getElem?_eq_getElem hb']
      simp only [Array.getD, hb, hb', dif_pos] at this
      simp only [Array.getInternal_eq_getElem] at this
      rw [this]
    · have hb' : ¬ t < a'.tmps.size := hs ▸ hb
      simp [Array.getElem?_eq_none (Nat.not_lt.1 hb), Array.getElem?_eq_none (Nat.not_lt.1 hb')]
  simp only [hy]
def may (ops : Array Oper) (ks : Nat → Kind) (u : Nat → Value) (i : Nat) (w : World) : Prop :=
 ∀ j wr cons Φ, pre ops i j = true → ks j = some ⟨wr, cons, .inr Φ⟩ → (cons = none ∨ cons = some i) → Φ (u j) w
structure Obl (P : Program) (ops : Array Oper) (R : World → World → Prop) (w0 : World) (a0 : Act) (ks : Nat → Kind) (Q : Exit → Act → World → Prop) (np : Nat) : Prop where
 pure : ∀ (u : Nat → Value) (i : Nat) (o : Oper), i < np → ops[i]? = some o → ks i = none → Region.wanted o (yielded ops (A P ops w0 a0 ks u i).tmps) = true → ∀ w, R w0 w → (execOp (A P ops w0 a0 ks u i).eval o).run P w = .ok (.value (V P ops w0 a0 ks u i)) w
 const : ∀ (u : Nat → Value) (i : Nat) (o : Oper) (wr : Bool) (cons : Option Nat) (c : Value), i < np → ops[i]? = some o → ks i = some ⟨wr, cons, .inl c⟩ → Region.wanted o (yielded ops (A P ops w0 a0 ks u i).tmps) = true ∧ ∀ w, R w0 w → may ops ks u i w →
  OpOK P ((execOp (A P ops w0 a0 ks u i).eval o).run P w) fun v w' => v = c ∧ step wr R w w'
 pred : ∀ (u : Nat → Value) (i : Nat) (o : Oper) (wr : Bool) (cons : Option Nat) (Φ : Value → World → Prop), i < np → ops[i]? = some o → ks i = some ⟨wr, cons, .inr Φ⟩ → Region.wanted o (yielded ops (A P ops w0 a0 ks u i).tmps) = true ∧ ∀ w, R w0 w → may ops ks u i w →
  OpOK P ((execOp (A P ops w0 a0 ks u i).eval o).run P w) fun v w' => Φ v w' ∧ step wr R w w'
 mono : ∀ i wr cons Φ, i < np → ks i = some ⟨wr, cons, .inr Φ⟩ → ∀ v w w', Grow w w' → Φ v w → Φ v w'
 wok : ∀ k cons x, k < np → ks k = some ⟨true, cons, x⟩ → ∀ j wr' cons' Φ, j < np → ks j = some ⟨wr', cons', .inr Φ⟩ → j = k ∨ pre ops j k = true ∨ ∃ i, cons' = some i ∧ (k = i ∨ pre ops k i = true)
 last : ∀ u w, R w0 w → (∀ j wr cons Φ, j < np → ks j = some ⟨wr, cons, .inr Φ⟩ → (cons = none ∨ ∃ i, cons = some i ∧ np ≤ i) → Φ (u j) w) → wpList P ops Q (ops.toList.drop np) (A P ops w0 a0 ks u np) w
variable {R : World → World → Prop} {Q : Exit → Act → World → Prop}
structure Inv (P : Program) (ops : Array Oper) (R : World → World → Prop) (w0 : World) (a0 : Act) (ks : Nat → Kind) (np : Nat) (listed : Array Bool) (a : Act) (w : World) (u : Nat → Value) : Prop where
 lim : ∀ i, listed.getD i false = true → i < np
 size : listed.size = ops.size
 tsize : a.tmps.size = a0.tmps.size
 defers : a.defers = a0.defers
 grown : R w0 w
 closed : Closed ops listed
 vals : ∀ (i : Nat) (o : Oper) (d : Tmp), ops[i]? = some o → listed.getD i false = true → o.dst = some d → a.tmps.getD d undef = V P ops w0 a0 ks u i
 facts : ∀ i wr cons Φ, i < np → listed.getD i false = true → ks i = some ⟨wr, cons, .inr Φ⟩ → (∀ k, cons = some k → listed.getD k false = false) → Φ (u i) w
 olds : ∀ (s : Tmp), (∀ (i : Nat) (o : Oper), ops[i]? = some o → o.dst = some s → listed.getD i false = false) → a.tmps.getD s undef = a0.tmps.getD s undef
theorem put_listed (listed : Array Bool) (i k : Nat) (hi : i < listed.size) : (listed.setIfInBounds i true).getD k false = if k = i then true else listed.getD k false := by
 rw [Array.getD_eq_getD_getElem?, Array.getD_eq_getD_getElem?, Array.getElem?_setIfInBounds]
 by_cases e : i = k
 · subst e; simp [hi]
 · simp [e, Ne.symm e]
theorem Inv.looks {np : Nat} (F : Form ops a0.tmps.size np) {listed : Array Bool} {a : Act} {w : World} {u : Nat → Value} (I : Inv P ops R w0 a0 ks np listed a w u) {i : Nat} {o : Oper} (ho : ops[i]? = some o)
 (hnot : listed.getD i false = false) (hpre : ∀ k, pre ops i k = true → listed.getD k false = true) : ∀ s ∈ o.looksAt ops, a.tmps.getD s undef = (A P ops w0 a0 ks u i).tmps.getD s undef := by
 intro s hs
 have hi : i < ops.size := (Array.getElem?_eq_some_iff.1 ho).1
 by_cases hw : ∃ (k : Nat) (o' : Oper), ops[k]? = some o' ∧ o'.dst = some s
 · obtain ⟨k, o', ho', hd'⟩ := hw
   rcases F.look i o ho s hs k o' ho' hd' with e | e | e
   · subst e
     rw [I.olds s (fun k' o'' h1 h2 => by rw [F.one _ _ s ho' hd' k' o'' h1 h2]; exact hnot), A_old u s _ (fun k' o'' hk h1 h2 => by have := F.one _ _ s ho' hd' k' o'' h1 h2; omega) (by omega)]
   · rw [I.vals k o' s ho' (hpre k e) hd', A_new F u k o' s ho' hd' i (pre_lt F.back i k e) (by omega)]
   · have hk := pre_lt F.back k i e
     have hkn : listed.getD k false = false := by
      cases hl : listed.getD k false with
      | false => rfl
      | true =>
       have := pre_listed F.back I.closed k (fun o'' h1 => I.closed k o'' h1 hl) i e
       rw [hnot] at this; cases this
     rw [I.olds s (fun k' o'' h1 h2 => by rw [F.one _ _ s ho' hd' k' o'' h1 h2]; exact hkn), A_old u s _ (fun k' o'' hk' h1 h2 => by have := F.one _ _ s ho' hd' k' o'' h1 h2; omega) (by omega)]
 · have hno : ∀ (k : Nat) (o' : Oper), ops[k]? = some o' → o'.dst ≠ some s := fun k o' h1 h2 => hw ⟨k, o', h1, h2⟩
   rw [I.olds s (fun k o' h1 h2 => absurd h2 (hno k o' h1)), A_old u s _ (fun k o' _ h1 => hno k o' h1) (by omega)]
theorem V_same {np : Nat} (F : Form ops a0.tmps.size np) {listed : Array Bool} (hc : Closed ops listed) {u u' : Nat → Value} (hu : ∀ k, listed.getD k false = true → (∃ wr cons Φ, ks k = some ⟨wr, cons, .inr Φ⟩) → u k = u' k) (i : Nat) :
 ∀ o, ops[i]? = some o → listed.getD i false = true → V P ops w0 a0 ks u i = V P ops w0 a0 ks u' i := by
 induction i using Nat.strongRecOn with
 | ind i ih =>
  intro o ho hl
  have hi : i < ops.size := (Array.getElem?_eq_some_iff.1 ho).1
  have hlook : ∀ s ∈ o.looksAt ops, (A P ops w0 a0 ks u i).tmps.getD s undef = (A P ops w0 a0 ks u' i).tmps.getD s undef := by
   intro s hs
   by_cases hw : ∃ (k : Nat) (o' : Oper), k < i ∧ ops[k]? = some o' ∧ o'.dst = some s
   · obtain ⟨k, o', hk, ho', hd'⟩ := hw
     rw [A_new F u k o' s ho' hd' i hk (by omega), A_new F u' k o' s ho' hd' i hk (by omega)]
     refine ih k hk o' ho' ?_
     rcases F.look i o ho s hs k o' ho' hd' with e | e | e
     · omega
     · exact pre_listed F.back hc i (fun o'' h1 => hc i o'' h1 hl) k e
     · have := pre_lt F.back k i e; omega
   · have hno : ∀ (k : Nat) (o' : Oper), k < i → ops[k]? = some o' → o'.dst ≠ some s := fun k o' h0 h1 h2 => hw ⟨k, o', h0, h1, h2⟩
     rw [A_old u s i hno (by omega), A_old u' s i hno (by omega)]
  unfold V nextV
  rw [getD_of_get ho]
  cases hk : ks i with
  | none =>
   simp only
   rw [wanted_looks (by rw [A_size, A_size]) hlook, execOp_congr o (F.sel i o ho) (eval_looks hlook)]
  | some x =>
   obtain ⟨wr, cons, x⟩ := x
   cases x with
   | inl c => rfl
   | inr Φ => exact hu i hl ⟨_, _, _, hk⟩
end
theorem act_ext {a b : Act} (h1 : a.tmps = b.tmps) (h2 : a.defers = b.defers) : a = b := by
 cases a; cases b; simp only at h1 h2; subst h1; subst h2; rfl
theorem OpOK_wp {P : Program} {o : Oper} {a : Act} {w : World} {K : Act → World → Prop} {Q : Exit → Act → World → Prop} {post : Value → World → Prop} (h : OpOK P ((execOp a.eval o).run P w) post)
 (hK : ∀ v w', post v w' → K (a.put o.dst v) w') : o.wp P a w K Q := by
 unfold Oper.wp
 generalize (execOp a.eval o).run P w = r at *
 cases r with
 | ok n w' =>
  cases n <;> simp only [OpOK] at h <;> simp only [Oper.upon] <;>
   first
    | exact hK _ _ h
    | exact Calls.mono h (fun e w'' he => by cases e <;> first | exact hK _ _ he | exact he.elim)
    | exact h.elim
 | halt x w' => cases x <;> exact h.elim
section
variable {P : Program} {ops : Array Oper} {w0 : World} {a0 : Act} {ks : Nat → Kind} {R : World → World → Prop} {Q : Exit → Act → World → Prop}
theorem ready_mem {listed : Array Bool} {i : Nat} (h : i ∈ Region.ready .any ops listed) :
 ∃ o, ops[i]? = some o ∧ listed.getD i true = false ∧ ∀ e ∈ o.after.toList, Region.binds .any e = true → listed.getD e.on false = true := by
 unfold Region.ready at h
 rw [List.mem_filter] at h
 obtain ⟨h1, h2⟩ := h
 have hi : i < ops.size := List.mem_range.1 h1
 refine ⟨ops[i], Array.getElem?_eq_getElem hi, ?_, ?_⟩
 · simp only [Bool.and_eq_true, Bool.not_eq_true'] at h2
   exact h2.1
 · simp only [Bool.and_eq_true, Array.getElem?_eq_getElem hi, Option.map_some, Option.getD_some, Array.all_eq_true'] at h2
   intro e he hb
   have := h2.2 e (by simpa using he)
   simpa [hb] using this
theorem ready_nil {np : Nat} (F : Form ops a0.tmps.size np) {listed : Array Bool} (hs : listed.size = ops.size) (h : Region.ready .any ops listed = []) (i : Nat) : i < ops.size → listed.getD i false = true := by
 induction i using Nat.strongRecOn with
 | ind i ih =>
  intro hi
  cases hl : listed.getD i false with
  | true => rfl
  | false =>
   have : i ∈ Region.ready .any ops listed := by
    unfold Region.ready
    rw [List.mem_filter]
    refine ⟨List.mem_range.2 hi, ?_⟩
    have hl' : listed.getD i true = false := by
     rw [Array.getD_eq_getD_getElem?, Array.getElem?_eq_getElem (by omega : i < listed.size)] at hl ⊢
     exact hl
    simp only [hl', Bool.not_false, Bool.true_and, Array.getElem?_eq_getElem hi, Option.map_some, Option.getD_some, Array.all_eq_true']
    intro e he
    cases hb : Region.binds .any e with
    | false => rfl
    | true =>
     have hlt := F.back i _ (Array.getElem?_eq_getElem hi) e (by simpa using he) hb
     simp [ih e.on hlt (by omega)]
   rw [h] at this; cases this
theorem filter_le (f g : Nat → Bool) (h : ∀ k, g k = true → f k = true) (l : List Nat) : (l.filter g).length ≤ (l.filter f).length := by
 induction l with
 | nil => simp
 | cons x l ih =>
  simp only [List.filter_cons]
  cases hg : g x with
  | false => cases f x <;> simp <;> omega
  | true => rw [h x hg]; simp; omega
theorem filter_lt (f g : Nat → Bool) (h : ∀ k, g k = true → f k = true) (i : Nat) (hf : f i = true) (hg : g i = false) (l : List Nat) (hm : i ∈ l) : (l.filter g).length < (l.filter f).length := by
 induction l with
 | nil => cases hm
 | cons x l ih =>
  simp only [List.filter_cons]
  by_cases e : x = i
  · subst e
    have := filter_le f g h l
    simp [hf, hg]; omega
  · have hm' : i ∈ l := by
     cases hm with
     | head => exact absurd rfl e
     | tail _ h => exact h
    have := ih hm'
    cases hg' : g x with
    | false => cases f x <;> simp <;> omega
    | true => rw [h x hg']; simp; omega
theorem count_ge (n m : Nat) : n - m ≤ ((List.range n).filter fun k => !decide (k < m)).length := by
 induction n with
 | zero => simp
 | succ n ih =>
  rw [List.range_succ, List.filter_append, List.length_append]
  by_cases h : n < m
  iterate 2
   · simp [h]; omega
theorem tail_any {np : Nat} (F : Form ops a0.tmps.size np) {n : Nat} (_hn : n = ops.size) : ∀ (m fuel : Nat) (listed : Array Bool) (a : Act) (w : World), listed.size = ops.size → (∀ i, listed.getD i false = true ↔ i < m) → np ≤ m → m ≤ ops.size →
 ops.size - m ≤ fuel → wpList P ops Q (ops.toList.drop m) a w → wpAny P .any ops Q fuel listed a w := by
 intro m fuel
 induction fuel generalizing m with
 | zero =>
  intro listed a w hs hl hnp hm hf h
  have hm' : m = ops.size := by omega
  subst hm'
  rw [List.drop_of_length_le (by simp)] at h
  refine ⟨?_, h⟩
  cases hr : Region.ready .any ops listed with
  | nil => rfl
  | cons x l =>
   obtain ⟨o, ho, h1, _⟩ := ready_mem (ops := ops) (listed := listed) (i := x) (by rw [hr]; simp)
   have hx := (Array.getElem?_eq_some_iff.1 ho).1
   have := (hl x).2 hx
   rw [Array.getD_eq_getD_getElem?, Array.getElem?_eq_getElem (by omega : x < listed.size)] at this h1
   simp at this h1; rw [this] at h1; cases h1
 | succ fuel ih =>
  intro listed a w hs hl hnp hm hf h
  have hnot : ∀ x, x ∈ Region.ready .any ops listed → x < ops.size ∧ ¬ x < m := by
   intro x hx
   obtain ⟨o, ho, h1, _⟩ := ready_mem hx
   have hx' := (Array.getElem?_eq_some_iff.1 ho).1
   refine ⟨hx', fun hc => ?_⟩
   have := (hl x).2 hc
   rw [Array.getD_eq_getD_getElem?, Array.getElem?_eq_getElem (by omega : x < listed.size)] at this h1
   simp at this h1; rw [this] at h1; cases h1
  have hclosed : Closed ops listed := fun i o ho hi e he hb => (hl _).2 (by have := F.back i o ho e he hb; have := (hl i).1 hi; omega)
  refine ⟨fun hr => ?_, fun x hx => ?_⟩
  · have hm' : m = ops.size := by
     rcases Nat.lt_or_ge m ops.size with h' | h'
     · have := ready_nil (a0 := a0) F hs hr m h'
       have := (hl m).1 this; omega
     · omega
    subst hm'
    rw [List.drop_of_length_le (by simp)] at h
    exact h
  · obtain ⟨hx1, hx2⟩ := hnot x hx
    obtain ⟨o, ho, _, hedges⟩ := ready_mem hx
    have hxm : x = m := by
     rcases Nat.lt_or_ge m x with h' | h'
     · have hp := pre_listed F.back hclosed x (fun o' h1 e he hb => by rw [ho] at h1; cases h1; exact hedges e he hb) m (F.tail x m (by omega) hx1 h')
       have := (hl m).1 hp; omega
     · omega
    subst hxm
    have hd : ops.toList.drop x = o :: ops.toList.drop (x + 1) := by
     obtain ⟨hx', ho'⟩ := Array.getElem?_eq_some_iff.1 ho
     rw [List.drop_eq_getElem_cons (by simpa using hx1)]
     congr 1
    rw [hd] at h
    unfold wpOp
    rw [ho]
    simp only
    unfold wpList at h
    have hK : ∀ a w, wpList P ops Q (ops.toList.drop (x + 1)) a w → wpAny P .any ops Q fuel (listed.setIfInBounds x true) a w := by
     intro a w hh
     refine ih (x + 1) _ a w (by rw [Array.size_setIfInBounds]; exact hs) (fun i => ?_) (by omega) (by omega) (by omega) hh
     rw [put_listed _ _ _ (by omega)]
     by_cases e : i = x
     · simp [e]
     · rw [if_neg e, hl]; omega
    split at h
    · rename_i hw; rw [if_pos hw]
      rcases h with h | h
      · exact .inl (Oper.wp_mono hK h)
      · exact .inr h
    · rename_i hw; rw [if_neg hw]; exact hK _ _ h
theorem inv_any {np : Nat} (F : Form ops a0.tmps.size np) (O : Obl P ops R w0 a0 ks Q np) (hrefl : ∀ a, R a a) (htrans : ∀ a b c, R a b → R b c → R a c) :
 ∀ (fuel : Nat) (listed : Array Bool) (a : Act) (w : World) (u : Nat → Value), Inv P ops R w0 a0 ks np listed a w u →
  ((List.range ops.size).filter fun k => !listed.getD k false).length ≤ fuel → wpAny P .any ops Q fuel listed a w := by
 have hend : ∀ (fuel : Nat) (listed : Array Bool) (a : Act) (w : World) (u : Nat → Value), Inv P ops R w0 a0 ks np listed a w u → ((List.range ops.size).filter fun k => !listed.getD k false).length ≤ fuel →
  (∀ i, i < np → listed.getD i false = true) → wpAny P .any ops Q fuel listed a w := by
  intro fuel listed a w u I hcount hall
  have e : a = A P ops w0 a0 ks u np := by
   refine act_ext ?_ (by rw [I.defers, A_defers])
   apply Array.ext
   · rw [I.tsize, A_size]
   · intro s h1 h2
     have : a.tmps.getD s undef = (A P ops w0 a0 ks u np).tmps.getD s undef := by
      by_cases hw : ∃ (k : Nat) (o' : Oper), k < np ∧ ops[k]? = some o' ∧ o'.dst = some s
      · obtain ⟨k, o', hk, ho', hd'⟩ := hw
        rw [I.vals k o' s ho' (hall k hk) hd', A_new F u k o' s ho' hd' _ hk F.le]
      · have hno : ∀ (k : Nat) (o' : Oper), k < np → ops[k]? = some o' → o'.dst ≠ some s := fun k o' h0 h1 h2 => hw ⟨k, o', h0, h1, h2⟩
        rw [I.olds s (fun k o' h1 h2 => by
         cases hl : listed.getD k false with
         | false => rfl
         | true => exact absurd h2 (hno k o' (I.lim k hl) h1)), A_old u s _ hno F.le]
     simpa [Array.getD, h1, h2] using this
  have hl : ∀ i, listed.getD i false = true ↔ i < np := fun i => ⟨I.lim i, hall i⟩
  refine tail_any F I.size np fuel listed a w I.size hl (Nat.le_refl _) F.le ?_ ?_
  · refine Nat.le_trans ?_ hcount
    rw [show ((List.range ops.size).filter fun k => !listed.getD k false) = (List.range ops.size).filter fun k => !decide (k < np) from List.filter_congr fun k _ => by
     cases hk : listed.getD k false with
     | false => have : ¬ k < np := fun h => by rw [(hl k).2 h] at hk; cases hk
                simp [this]
     | true => simp [(hl k).1 hk]]
    exact count_ge _ _
  · rw [e]
    exact O.last u w I.grown fun j wr cons Φ hj hk hc => I.facts j wr cons Φ hj (hall j hj) hk fun k hk' => by
     rcases hc with e | ⟨i, e, hi⟩
     · rw [e] at hk'; cases hk'
     · rw [e] at hk'; cases hk'
       cases hl' : listed.getD k false with
       | false => rfl
       | true => have := I.lim k hl'; omega
 intro fuel
 induction fuel with
 | zero =>
  intro listed a w u I hcount
  refine hend 0 listed a w u I hcount fun i hi => ?_
  cases hl : listed.getD i false with
  | true => rfl
  | false =>
   have : i ∈ (List.range ops.size).filter fun k => !listed.getD k false := by
    rw [List.mem_filter]
    exact ⟨List.mem_range.2 (Nat.lt_of_lt_of_le hi F.le), by rw [hl]; rfl⟩
   have := List.length_pos_of_mem this
   omega
 | succ fuel ih =>
  intro listed a w u I hcount
  by_cases hall : ∀ i, i < np → listed.getD i false = true
  · exact hend (fuel + 1) listed a w u I hcount hall
  refine ⟨fun hr => absurd (fun i hi => ready_nil (a0 := a0) F I.size hr i (Nat.lt_of_lt_of_le hi F.le)) hall, fun i hi => ?_⟩
  obtain ⟨o, ho, hnot', hedges⟩ := ready_mem hi
  have hin : i < ops.size := (Array.getElem?_eq_some_iff.1 ho).1
  have hil : i < listed.size := by rw [I.size]; exact hin
  have hnot : listed.getD i false = false := by
   rw [Array.getD_eq_getD_getElem?, Array.getElem?_eq_getElem hil] at hnot' ⊢
   exact hnot'
  have hpre : ∀ k, pre ops i k = true → listed.getD k false = true := pre_listed F.back I.closed i (fun o' h1 e he hb => by rw [ho] at h1; cases h1; exact hedges e he hb)
  have hnp : i < np := by
   rcases Nat.lt_or_ge i np with h | h
   · exact h
   · exact absurd (fun j hj => hpre j (F.tail i j h hin (by omega))) hall
  have hlooks := I.looks F ho hnot hpre
  have hexec : execOp a.eval o = execOp (A P ops w0 a0 ks u i).eval o := execOp_congr o (F.sel i o ho) (eval_looks hlooks)
  have hwant : Region.wanted o (yielded ops a.tmps) = Region.wanted o (yielded ops (A P ops w0 a0 ks u i).tmps) := wanted_looks (by rw [I.tsize, A_size]) hlooks
  -- the next state
  have next : ∀ (u' : Nat → Value) (v : Value) (w' : World), (∀ k, k ≠ i → u' k = u k) → v = V P ops w0 a0 ks u' i → R w w' → (w' = w ∨ ∃ wr cons x, ks i = some ⟨wr, cons, x⟩ ∧ (wr = false → Grow w w')) → (∀ wr cons Φ, ks i = some ⟨wr, cons, .inr Φ⟩ → Φ (u' i) w') →
   wpAny P .any ops Q fuel (listed.setIfInBounds i true) (a.put o.dst v) w' := by
   intro u' v w' hu hv hR hstep hΦ
   have hclosed : Closed ops (listed.setIfInBounds i true) := by
    intro k o' hk hl e he hb
    rw [put_listed _ _ _ hil] at hl ⊢
    by_cases ek : k = i
    · subst ek; rw [ho] at hk; cases hk
      rw [hedges e he hb]; split <;> rfl
    · rw [if_neg ek] at hl
      rw [I.closed k o' hk hl e he hb]; split <;> rfl
   have hsame : ∀ k o', ops[k]? = some o' → listed.getD k false = true → V P ops w0 a0 ks u' k = V P ops w0 a0 ks u k := fun k o' h1 h2 =>
    V_same F I.closed (fun k' hk' _ => hu k' (fun e => by subst e; rw [hnot] at hk'; cases hk')) k o' h1 h2
   have I' : Inv P ops R w0 a0 ks np (listed.setIfInBounds i true) (a.put o.dst v) w' u' := by
    refine ⟨fun k hk => by
     rw [put_listed _ _ _ hil] at hk
     split at hk
     · rename_i e; rw [e]; exact hnp
     · exact I.lim k hk, by rw [Array.size_setIfInBounds]; exact I.size, by rw [size_put]; exact I.tsize, by rw [defers_put]; exact I.defers, htrans _ _ _ I.grown hR, hclosed, ?_, ?_, ?_⟩
    · intro k o' d hk hl hd
      rw [put_listed _ _ _ hil] at hl
      by_cases ek : k = i
      · subst ek; rw [ho] at hk; cases hk
        rw [hd, getD_put_same _ _ _ (by rw [I.tsize]; exact F.room _ _ d ho hd)]; exact hv
      · rw [if_neg ek] at hl
        rw [getD_put_ne _ _ _ _ (fun hc => ek (F.one i o d ho hc k o' hk hd)), I.vals k o' d hk hl hd]
        exact (hsame k o' hk hl).symm
    · intro k wr cons Φ hk hl hkind hcons
      rw [put_listed _ _ _ hil] at hl
      by_cases ek : k = i
      · subst ek; exact hΦ wr cons Φ hkind
      · rw [if_neg ek] at hl
        rw [hu k ek]
        have hlive : ∀ c, cons = some c → c ≠ i ∧ listed.getD c false = false := fun c hc => by
         have := hcons c hc
         rw [put_listed _ _ _ hil] at this
         split at this
         · cases this
         · rename_i e; exact ⟨e, this⟩
        have hold := I.facts k wr cons Φ hk hl hkind (fun c hc => (hlive c hc).2)
        rcases hstep with e | ⟨wr', cons', x, hi', hg⟩
        · rw [e]; exact hold
        · cases wr' with
          | false => exact O.mono k wr cons Φ hk hkind _ _ _ (hg rfl) hold
          | true =>
           exfalso
           rcases O.wok i cons' x hnp hi' k wr cons Φ hk hkind with e | e | ⟨c, hc, e⟩
           · exact ek e
           · have h1 : ∀ o', ops[k]? = some o' → ∀ e ∈ o'.after.toList, Region.binds .any e = true → listed.getD e.on false = true := fun o' h1 => I.closed k o' h1 hl
             have := pre_listed F.back I.closed k h1 i e
             rw [hnot] at this; cases this
           · rcases e with e | e
             · exact (hlive c hc).1 e.symm
             · have := hpre c e
               rw [(hlive c hc).2] at this; cases this
    · intro s hs
      have h1 : o.dst ≠ some s := fun hc => by
       have := hs i o ho hc
       rw [put_listed _ _ _ hil, if_pos rfl] at this; cases this
      rw [getD_put_ne _ _ _ _ h1]
      refine I.olds s fun k o' hk hd => ?_
      have := hs k o' hk hd
      rw [put_listed _ _ _ hil] at this
      split at this
      · cases this
      · exact this
   have hlt : ((List.range ops.size).filter fun k => !(listed.setIfInBounds i true).getD k false).length < ((List.range ops.size).filter fun k => !listed.getD k false).length := by
    refine filter_lt _ _ (fun k hk => ?_) i (by simp [hnot]) (by rw [put_listed _ _ _ hil, if_pos rfl]; rfl) _ (List.mem_range.2 hin)
    rw [put_listed _ _ _ hil] at hk
    split at hk
    · cases hk
    · exact hk
   exact ih _ _ _ u' I' (by omega)
  have huu : ∀ v k, k ≠ i → (fun k => if k = i then v else u k) k = u k := fun v k hk => by simp [hk]
  have hoi : ops.getD i default = o := getD_of_get ho
  have hmay : may ops ks u i w := fun j wr cons Φ hj hk hc => I.facts j wr cons Φ (Nat.lt_trans (pre_lt F.back i j hj) hnp) (hpre j hj) hk fun c hc' => by
   rcases hc with e | e
   · rw [e] at hc'; cases hc'
   · rw [e] at hc'; cases hc'; exact hnot
  unfold wpOp
  rw [ho]
  simp only
  cases hkind : ks i with
  | none =>
   by_cases hw : Region.wanted o (yielded ops a.tmps) = true
   · rw [if_pos hw]
     refine .inl ?_
     have h1 := O.pure u i o hnp ho hkind (hwant ▸ hw) w I.grown
     rw [← hexec] at h1
     unfold Oper.wp
     rw [h1]
     exact next u _ w (fun _ _ => rfl) rfl (hrefl _) (.inl rfl) (fun wr cons Φ h => by rw [hkind] at h; cases h)
   · rw [if_neg hw]
     have hv : V P ops w0 a0 ks u i = undef := by
      unfold V nextV; rw [hoi, hkind]; simp only; rw [if_neg (by rw [← hwant]; exact hw)]
     rw [← hv]
     exact next u _ w (fun _ _ => rfl) rfl (hrefl _) (.inl rfl) (fun wr cons Φ h => by rw [hkind] at h; cases h)
  | some x =>
   obtain ⟨wr, cons, x⟩ := x
   cases x with
   | inl c =>
    obtain ⟨hw, hop⟩ := O.const u i o wr cons c hnp ho hkind
    rw [if_pos (by rw [hwant]; exact hw)]
    refine .inl ?_
    have hop := hop w I.grown hmay
    rw [← hexec] at hop
    refine OpOK_wp hop fun v w' ⟨hv, hR⟩ => ?_
    refine next u v w' (fun _ _ => rfl) ?_ hR.1 (.inr ⟨_, _, _, hkind, hR.2⟩) (fun wr cons Φ h => by rw [hkind] at h; cases h)
    unfold V nextV; rw [hkind]; exact hv
   | inr Φ =>
    obtain ⟨hw, hop⟩ := O.pred u i o wr cons Φ hnp ho hkind
    rw [if_pos (by rw [hwant]; exact hw)]
    refine .inl ?_
    have hop := hop w I.grown hmay
    rw [← hexec] at hop
    refine OpOK_wp hop fun v w' ⟨hv, hR⟩ => ?_
    refine next (fun k => if k = i then v else u k) v w' (huu v) ?_ hR.1 (.inr ⟨_, _, _, hkind, hR.2⟩) (fun wr' cons' Φ' h => by rw [hkind] at h; cases h; simpa using hv)
    unfold V nextV; rw [hkind]; simp
def envOf (ks : Nat → Kind) (u : Nat → Value) : Nat → List Fact
 | 0 => []
 | i + 1 => match ks i with
  | some ⟨_, cons, .inr Φ⟩ => ⟨i, Φ, cons, u i⟩ :: envOf ks u i
  | _ => envOf ks u i
theorem mem_envOf (u : Nat → Value) (i : Nat) : ∀ x ∈ envOf ks u i, x.who < i ∧ (∃ wr, ks x.who = some ⟨wr, x.cons, .inr x.what⟩) ∧ x.val = u x.who := by
 induction i with
 | zero => intro x h; cases h
 | succ i ih =>
  intro x h
  unfold envOf at h
  cases hk : ks i with
  | none => rw [hk] at h; have := ih x h; exact ⟨by omega, this.2⟩
  | some y =>
   obtain ⟨wr, cons, y⟩ := y
   cases y with
   | inl c => rw [hk] at h; have := ih x h; exact ⟨by omega, this.2⟩
   | inr Φ =>
    rw [hk] at h
    cases h with
    | head => exact ⟨Nat.lt_succ_self i, ⟨wr, hk⟩, rfl⟩
    | tail _ h => have := ih x h; exact ⟨by omega, this.2⟩
theorem T_at (L : List Kind) (h : T P ops R w0 Q L 0 a0 []) (hrefl : R w0 w0) (u : Nat → Value) (i : Nat) (hi : i ≤ L.length) :
 T P ops R w0 Q (L.drop i) i (A P ops w0 a0 (fun j => L.getD j none) u i) (envOf (fun j => L.getD j none) u i) := by
 induction i with
 | zero => simpa [A, envOf] using h
 | succ i ih =>
  have ih := ih (by omega)
  have hd : L.drop i = L[i] :: L.drop (i + 1) := by rw [List.drop_eq_getElem_cons]
  have hg : L.getD i none = L[i] := by simp [List.getD, show i < L.length by omega]
  rw [hd] at ih
  unfold A envOf
  simp only [hg]
  cases hk : L[i] with
  | none =>
   rw [hk] at ih
   obtain ⟨o, ho, v, hv, ht⟩ := ih
   rw [getD_of_get ho]
   have e : nextV P ops w0 none o (A P ops w0 a0 (fun j => L.getD j none) u i) (u i) = v := by
    unfold nextV
    rcases hv with ⟨hw, hr⟩ | ⟨hw, rfl⟩
    · simp only [hw, if_true]; rw [hr w0 hrefl]; rfl
    · rw [hw]; rfl
   rw [e]; exact ht
  | some x =>
   obtain ⟨wr, cons, x⟩ := x
   cases x with
   | inl c =>
    rw [hk] at ih
    obtain ⟨o, ho, _, _, ht⟩ := ih
    rw [getD_of_get ho]; exact ht
   | inr Φ =>
    rw [hk] at ih
    obtain ⟨_, o, ho, _, _, ht⟩ := ih
    rw [getD_of_get ho]; exact ht (u i)
theorem T_obl (L : List Kind) (h : T P ops R w0 Q L 0 a0 []) (hrefl : R w0 w0) (hle : L.length ≤ ops.size) (hwok : wok ops L = true) : Obl P ops R w0 a0 (fun j => L.getD j none) Q L.length := by
 have at' : ∀ (u : Nat → Value) (i : Nat), i < L.length → ∃ k, L.getD i none = k ∧ T P ops R w0 Q (k :: L.drop (i + 1)) i (A P ops w0 a0 (fun j => L.getD j none) u i) (envOf (fun j => L.getD j none) u i) := by
  intro u i hi
  have := T_at L h hrefl u i (by omega)
  rw [List.drop_eq_getElem_cons hi] at this
  exact ⟨L[i], by simp [List.getD, hi], this⟩
 have facts : ∀ (u : Nat → Value) (i : Nat) (w : World), may ops (fun j => L.getD j none) u i w → given ops i (envOf (fun j => L.getD j none) u i) w := by
  intro u i w hf x hx hp hc
  obtain ⟨_, ⟨wr, h2⟩, h3⟩ := mem_envOf u i x hx
  rw [h3]; exact hf x.who wr x.cons x.what hp h2 hc
 refine ⟨?_, ?_, ?_, ?_, ?_, ?_⟩
 · intro u i o hi ho hk hw w hR
   obtain ⟨k, hk', ht⟩ := at' u i hi
   rw [show k = none from hk'.symm.trans hk] at ht
   obtain ⟨o', ho', v, hv, _⟩ := ht
   rw [ho] at ho'; cases ho'
   rcases hv with ⟨_, hr⟩ | ⟨hw', _⟩
   · have e : V P ops w0 a0 (fun j => L.getD j none) u i = v := by
      unfold V nextV
      rw [getD_of_get ho]
      show (match L.getD i none with | none => _ | some ⟨_, _, .inl c⟩ => c | some ⟨_, _, .inr _⟩ => u i) = v
      rw [hk]
      simp only [hw, if_true]; rw [hr w0 hrefl]; rfl
     rw [e]; exact hr w hR
   · rw [hw] at hw'; cases hw'
 · intro u i o wr cons c hi ho hk
   obtain ⟨k, hk', ht⟩ := at' u i hi
   rw [show k = some ⟨wr, cons, .inl c⟩ from hk'.symm.trans hk] at ht
   obtain ⟨o', ho', hw, hop, _⟩ := ht
   rw [ho] at ho'; cases ho'
   exact ⟨hw, fun w hR hf => hop w hR (facts u i w hf)⟩
 · intro u i o wr cons Φ hi ho hk
   obtain ⟨k, hk', ht⟩ := at' u i hi
   rw [show k = some ⟨wr, cons, .inr Φ⟩ from hk'.symm.trans hk] at ht
   obtain ⟨_, o', ho', hw, hop, _⟩ := ht
   rw [ho] at ho'; cases ho'
   exact ⟨hw, fun w hR hf => hop w hR (facts u i w hf)⟩
 · intro i wr cons Φ hi hk
   obtain ⟨k, hk', ht⟩ := at' (fun _ => undef) i hi
   rw [show k = some ⟨wr, cons, .inr Φ⟩ from hk'.symm.trans hk] at ht
   exact ht.1
 · intro k cons x hk hkk j wr' cons' Φ hj hkj
   have h1 := List.all_eq_true.1 hwok k (List.mem_range.2 hk)
   rw [show L.getD k none = some ⟨true, cons, x⟩ from hkk] at h1
   have h2 := List.all_eq_true.1 h1 j (List.mem_range.2 hj)
   rw [show L.getD j none = some ⟨wr', cons', .inr Φ⟩ from hkj] at h2
   simp only [Bool.or_eq_true, beq_iff_eq] at h2
   rcases h2 with (h2 | h2) | h2
   · exact .inl h2
   · exact .inr (.inl h2)
   · cases cons' with
     | none => cases h2
     | some i => simp only [Bool.or_eq_true, beq_iff_eq] at h2; exact .inr (.inr ⟨i, rfl, h2⟩)
 · intro u w hR hf
   have := T_at L h hrefl u L.length (Nat.le_refl _)
   rw [List.drop_of_length_le (Nat.le_refl _)] at this
   exact this w hR fun x hx hc => by
    obtain ⟨h1, ⟨wr, h2⟩, h3⟩ := mem_envOf u _ x hx
    rw [h3]; exact hf x.who wr x.cons x.what h1 h2 hc
theorem wp_region_T {id : Nat} {a : Act} {w : World} (hm : P.follows .mixedOrders = true) (m np : Nat) (hsz : a.tmps.size = m) (hform : form ops m np = true) (R : World → World → Prop) (hrefl : ∀ x, R x x) (htrans : ∀ x y z, R x y → R y z → R x z)
 {L : List Kind} (h : T P ops R w.drew Q L 0 a []) (hL : L.length = np) (hwok : wok ops L = true) : (Code.region id ops true).wp P Q a w := by
 subst hsz
 subst hL
 have F := form_open hform
 have O := T_obl L h (hrefl _) F.le hwok
 refine wp_region_any hm ?_
 refine inv_any F O hrefl htrans _ _ _ w.drew (fun _ => undef) ⟨?_, by simp, rfl, rfl, hrefl _, ?_, ?_, ?_, fun _ _ => rfl⟩ ?_
 · intro i hl; simp [Array.getD_eq_getD_getElem?, Array.getElem?_replicate] at hl; split at hl <;> cases hl
 · intro i o _ hl; simp [Array.getD_eq_getD_getElem?, Array.getElem?_replicate] at hl; split at hl <;> cases hl
 · intro i o d _ hl; simp [Array.getD_eq_getD_getElem?, Array.getElem?_replicate] at hl; split at hl <;> cases hl
 · intro i wr cons Φ _ hl; simp [Array.getD_eq_getD_getElem?, Array.getElem?_replicate] at hl; split at hl <;> cases hl
 · refine Nat.le_trans (List.length_filter_le _ _) ?_
   simp
structure Same (x y : World) : Prop where
 heap : y.heap = x.heap
 os : y.os = x.os
 tape : y.tape = x.tape
 output : y.output = x.output
theorem Same.refl (x : World) : Same x x := ⟨rfl, rfl, rfl, rfl⟩
theorem Same.trans (x y z : World) (h : Same x y) (k : Same y z) : Same x z := ⟨k.heap.trans h.heap, k.os.trans h.os, k.tape.trans h.tape, k.output.trans h.output⟩
theorem Same.below {B : Nat} {x y : World} (h : Same x y) : Below B x y := ⟨h.os, h.tape, h.output, by rw [h.heap]; exact Nat.le_refl _, fun _ _ => by rw [h.heap]⟩
theorem Same.cell {x y : World} (h : Same x y) {a : Addr} {v : Option Value} (hc : x.cell? a = v) : y.cell? a = v := by rw [← hc]; simp [World.cell?, h.heap]
theorem Same.frozen {x y : World} (h : Same x y) {a : Addr} {v : Bool} (hc : x.frozen? a = v) : y.frozen? a = v := by rw [← hc]; simp [World.frozen?, h.heap]
section
variable {a : Act} {env : List Fact} {o : Oper} {i : Nat} {L : List Kind}
theorem put_lit (l : List Value) (df : List Deferred) (x : Option Tmp) (d : Tmp) (hd : x = some d) (v : Value) : (⟨l.toArray, df⟩ : Act).put x v = ⟨(l.set d v).toArray, df⟩ := by
 subst hd; simp [Act.put]
variable {l : List Value} {df : List Deferred} {d : Tmp}
theorem T_end (hi : i = ops.size) (h : ∀ w, R w0 w → left i env w → Q .normal a w) : T P ops R w0 Q [] i a env := fun w h1 h2 => by
 subst hi
 rw [List.drop_of_length_le (by simp)]
 exact h w h1 h2
theorem T_tail (h : ∀ w, R w0 w → left i env w → wpList P ops Q (ops.toList.drop i) a w) : T P ops R w0 Q [] i a env := h
theorem T_pure (ho : ops[i]? = some o) (hd : o.dst = some d) (hw : Region.wanted o (yielded ops l.toArray) = true) {v : Value} (hr : ∀ w, R w0 w → (execOp (Act.eval ⟨l.toArray, df⟩) o).run P w = .ok (.value v) w)
 (h : T P ops R w0 Q L (i + 1) ⟨(l.set d v).toArray, df⟩ env) : T P ops R w0 Q (pureK :: L) i ⟨l.toArray, df⟩ env := ⟨o, ho, v, .inl ⟨hw, hr⟩, by rw [put_lit _ _ _ _ hd]; exact h⟩
theorem T_skip (ho : ops[i]? = some o) (hd : o.dst = some d) (hw : Region.wanted o (yielded ops l.toArray) = false) (h : T P ops R w0 Q L (i + 1) ⟨(l.set d undef).toArray, df⟩ env) : T P ops R w0 Q (pureK :: L) i ⟨l.toArray, df⟩ env :=
 ⟨o, ho, undef, .inr ⟨hw, rfl⟩, by rw [put_lit _ _ _ _ hd]; exact h⟩
theorem T_const (ho : ops[i]? = some o) (hd : o.dst = some d) (hw : Region.wanted o (yielded ops l.toArray) = true) (c : Value) (hRG : ∀ x y, Grow x y → R x y) (hr : ∀ w, R w0 w → given ops i env w → OpOK P ((execOp (Act.eval ⟨l.toArray, df⟩) o).run P w) fun v w' => v = c ∧ Grow w w')
 (h : T P ops R w0 Q L (i + 1) ⟨(l.set d c).toArray, df⟩ env) : T P ops R w0 Q (constK c :: L) i ⟨l.toArray, df⟩ env := ⟨o, ho, hw, fun w h1 h2 => OpOK_mono (hr w h1 h2) fun _ _ ⟨e, g⟩ => ⟨e, hRG _ _ g, fun _ => g⟩, by rw [put_lit _ _ _ _ hd]; exact h⟩
theorem T_pred (ho : ops[i]? = some o) (hd : o.dst = some d) (hw : Region.wanted o (yielded ops l.toArray) = true) (Φ : Value → World → Prop) (hRG : ∀ x y, Grow x y → R x y) (hm : ∀ v x y, Grow x y → Φ v x → Φ v y)
 (hr : ∀ w, R w0 w → given ops i env w → OpOK P ((execOp (Act.eval ⟨l.toArray, df⟩) o).run P w) fun v w' => Φ v w' ∧ Grow w w')
 (h : ∀ v, T P ops R w0 Q L (i + 1) ⟨(l.set d v).toArray, df⟩ (⟨i, Φ, none, v⟩ :: env)) : T P ops R w0 Q (predK Φ :: L) i ⟨l.toArray, df⟩ env := ⟨hm, o, ho, hw, fun w h1 h2 => OpOK_mono (hr w h1 h2) fun _ _ ⟨e, g⟩ => ⟨e, hRG _ _ g, fun _ => g⟩, fun v => by rw [put_lit _ _ _ _ hd]; exact h v⟩
theorem T_predC (ho : ops[i]? = some o) (hd : o.dst = some d) (hw : Region.wanted o (yielded ops l.toArray) = true) (cons : Nat) (Φ : Value → World → Prop) (hRG : ∀ x y, Grow x y → R x y) (hm : ∀ v x y, Grow x y → Φ v x → Φ v y)
 (hr : ∀ w, R w0 w → given ops i env w → OpOK P ((execOp (Act.eval ⟨l.toArray, df⟩) o).run P w) fun v w' => Φ v w' ∧ Grow w w')
 (h : ∀ v, T P ops R w0 Q L (i + 1) ⟨(l.set d v).toArray, df⟩ (⟨i, Φ, some cons, v⟩ :: env)) : T P ops R w0 Q (some ⟨false, some cons, .inr Φ⟩ :: L) i ⟨l.toArray, df⟩ env := ⟨hm, o, ho, hw, fun w h1 h2 => OpOK_mono (hr w h1 h2) fun _ _ ⟨e, g⟩ => ⟨e, hRG _ _ g, fun _ => g⟩, fun v => by rw [put_lit _ _ _ _ hd]; exact h v⟩
theorem T_write (ho : ops[i]? = some o) (hd : o.dst = some d) (hw : Region.wanted o (yielded ops l.toArray) = true) (cons : Option Nat) (Φ : Value → World → Prop) (hm : ∀ v x y, Grow x y → Φ v x → Φ v y)
 (hr : ∀ w, R w0 w → given ops i env w → OpOK P ((execOp (Act.eval ⟨l.toArray, df⟩) o).run P w) fun v w' => Φ v w' ∧ R w w')
 (h : ∀ v, T P ops R w0 Q L (i + 1) ⟨(l.set d v).toArray, df⟩ (⟨i, Φ, cons, v⟩ :: env)) : T P ops R w0 Q (some ⟨true, cons, .inr Φ⟩ :: L) i ⟨l.toArray, df⟩ env := ⟨hm, o, ho, hw, fun w h1 h2 => OpOK_mono (hr w h1 h2) fun _ _ ⟨e, g⟩ => ⟨e, g, fun h => by cases h⟩, fun v => by rw [put_lit _ _ _ _ hd]; exact h v⟩
def Under (B : Nat) (x y : World) : Prop := B ≤ x.heap.size → Below B x y ∧ B ≤ y.heap.size
theorem Under.refl (B : Nat) (x : World) : Under B x x := fun h => ⟨RowKit.Below.refl _ _, h⟩
theorem Under.trans (B : Nat) (x y z : World) (h : Under B x y) (k : Under B y z) : Under B x z := fun hx => ⟨(h hx).1.trans (k (h hx).2).1, (k (h hx).2).2⟩
theorem Under.grow (B : Nat) (x y : World) (h : Grow x y) : Under B x y := fun hx => ⟨RowKit.Below.mono h hx, Nat.le_trans hx h.size⟩
theorem OpOK_value {P : Program} {v : Value} {w : World} {post : Value → World → Prop} (h : post v w) : OpOK P (.ok (.value v) w) post := h
theorem OpOK_enter {P : Program} {f : FuncId} {args : Array Value} {w : World} {R' : Ending → World → Prop} {post : Value → World → Prop} (h : Calls P f args w R') (hr : ∀ e w', R' e w' → ∃ v, e = .returned v ∧ post v w') : OpOK P (.ok (.enter f args) w) post :=
 Calls.mono h fun e w' he => by obtain ⟨v, rfl, hp⟩ := hr e w' he; exact hp
end
end
end Go.Proofs.Yteellfgiejnigaa.RegT
namespace Go.Proofs.Yteellfgiejnigaa
set_option linter.unusedVariables false
open Go.RowKit
theorem run_convert_str {P : Program} {w : World} {v : Value} {l : List UInt8} (h : RdB w v l) (src e dst : TypeId) (hs : P.underlying src = some (.slice e)) (he : P.underlying e = some (.int .u8)) (hd : P.underlying dst = some .string) :
 (convert src dst v).run P w = .ok (.string ⟨l.toArray⟩) w := by
 obtain ⟨p, cap, rfl, h1, h2, h3, h4⟩ := h
 cases p with
 | none =>
  have hc := h1 rfl
  have : l = [] := List.eq_nil_of_length_eq_zero (by omega)
  subst this
  rw [run_convert_bytes_nil w src e hs he _ _ dst hd]; rfl
 | some ad =>
  by_cases hl : l = []
  · subst hl
    rw [run_convert_bytes_string w src dst e _ _ cap hs he hd]
    simp [Conv.bytesToString, loadCells, loadCellsFrom]
    rfl
  · obtain ⟨b, off, hp, hc⟩ := h4 hl
    cases hp
    have e1 : ∀ i, i < l.length → (l.map fun x => (x.toNat : Int)).getD i 0 = ((l.getD i 0).toNat : Int) := fun i hi => by
     rw [getD_of_lt _ _ _ (by simpa using hi), getD_of_lt _ _ _ hi]; simp
    rw [run_convert_bytes_arg w src e hs he b off l.length cap (l.map fun x => (x.toNat : Int)) (by simp) (fun i hi => by rw [e1 i hi]; exact hc i hi) dst hd]
    congr 2
    simp only [strOfNums, List.map_map]
    congr 1
    have : ((fun n : Int => UInt8.ofNat n.toNat) ∘ fun x : UInt8 => (x.toNat : Int)) = id := by funext x; simp
    rw [this, List.map_id]
theorem run_append_fresh {P : Program} {w : World} {base : Nat} {t ty e : TypeId} {z : Value} {size bytes : Nat} (he : Elem P t e z size bytes) {g : Nat} (hown : w.ownsRow base e size (.slice (some ⟨g, 0, none⟩) 0 0) 0 [])
 {x : Value} {m : Nat} {news : List Value} (hsrc : SrcR w size x m news) (h63 : m ≤ maxLen) (hbytes : m * bytes ≤ 140737488355328) (hbase : base ≤ w.heap.size) :
 ∃ v' w', (Builtin.append_ #[t, t] ty #[.slice (some ⟨g, 0, none⟩) 0 0, x]).run P w = .ok v' w' ∧ w'.ownsRow base e size v' m news ∧ RegT.Grow w w' := by
 obtain ⟨i, hi, hz, hs, hb⟩ := info_parts he.info
 obtain ⟨p, c, rfl, hl, h1, hp⟩ := hsrc
 rcases hp with ⟨rfl, rfl, rfl⟩ | ⟨ad, rfl, hnews⟩
 · have hn : news = [] := List.eq_nil_of_length_eq_zero (by simpa using hl)
   subst hn
   exact ⟨_, w, run_append_owned_none w base t ty e i size he.sl hi _ 0 [] hown, hown, RegT.Grow.refl _⟩
 · rcases Nat.eq_zero_or_pos m with e0 | hpos
   · subst e0
     have hn : news = [] := List.eq_nil_of_length_eq_zero (by simpa using hl)
     subst hn
     rcases hown.2 with ⟨h, _⟩ | ⟨g', cap, cur, h, hg1, hg2, h3, h4, h5, h6⟩
     · cases h
     · cases h
       subst hs
       have hr := run_append_room (P := P) w t ty e i he.sl hi g 0 0 cur hg2 ad 0 c [] (by simp) hnews (by simp) (Nat.le_refl _) (by simp)
       simp only [Nat.zero_mul, List.take_zero, List.nil_append, List.length_nil, Nat.add_zero, List.drop_zero, Array.toArray_toList] at hr
       have hself : ∀ k, (w.setRow g cur).heap[k]? = w.heap[k]? := fun k => by
        by_cases ek : k = g
        · subst ek; rw [setRow_heap w k cur cur e (0, 0) hg2, hg2]
        · exact setRow_other w g k cur ek
       refine ⟨_, _, hr, ⟨hown.1, .inr ⟨g, 0, cur, rfl, hg1, by rw [hself]; exact hg2, h3, h4, h5, h6⟩⟩, ⟨rfl, rfl, rfl, by simp, fun k _ => hself k⟩⟩
   · subst hs
     have hr := run_append_grow (P := P) w t ty e i z he.sl hi hz ⟨g, 0, none⟩ 0 0 [] (by simp) (by simp) ad m c news hl hnews (by omega) (by simp only [maxLen] at h63; omega) (growslice_fits (by omega) (by rw [hb]; simpa using hbytes))
     simp only [Nat.zero_add] at hr
     have hge := grownCap_ge w m 0 e
     have hcm := grownCap_le_maxLen w m 0 e h63
     refine ⟨_, _, hr, ⟨hl, .inr ⟨w.heap.size, _, _, rfl, hbase, heap_alloc_new w.drew _, hge, hcm, ?_, ?_⟩⟩, ⟨rfl, rfl, rfl, by simp, fun k hk => Below.heap_alloc w.drew _ k hk⟩⟩
     · simp only [Array.size_append, List.size_toArray, size_zeroCells, he.zs, hl, List.length_nil, Nat.zero_add, ← Nat.add_mul]
       congr 1
       omega
     · simp only [Array.toList_append, List.nil_append]
       rw [← hl]
       exact List.take_left
end Go.Proofs.Yteellfgiejnigaa
namespace Go.Proofs.Yteellfgiejnigaa.RegT
open Go.RowKit
set_option linter.unusedVariables false
def quietK : Kind → Bool | some ⟨true, _, _⟩ => false | _ => true
theorem T_list {P : Program} {ops : Array Oper} {R : World → World → Prop} {w0 : World} {Q : Exit → Act → World → Prop} (htrans : ∀ x y z, R x y → R y z → R x z) :
 ∀ (L : List Kind) (i : Nat) (a : Act) (env : List Fact) (w : World), L.all quietK = true → T P ops R w0 Q L i a env → R w0 w → left i env w → (∀ x ∈ env, ∀ v y z, Grow y z → x.what v y → x.what v z) → wpList P ops Q (ops.toList.drop i) a w
 | [], i, a, env, w, _, h, hR, hl, _ => h w hR hl
 | k :: L, i, a, env, w, hq, h, hR, hl, hm => by
  simp only [List.all_cons, Bool.and_eq_true] at hq
  have hg : given ops i env w := fun x hx _ hc => hl x hx (hc.imp id fun e => ⟨i, e, Nat.le_refl _⟩)
  have hl' : left (i + 1) env w := fun x hx hc => hl x hx (hc.imp id fun ⟨j, e, hj⟩ => ⟨j, e, by omega⟩)
  have hd : ∀ o, ops[i]? = some o → ops.toList.drop i = o :: ops.toList.drop (i + 1) := fun o ho => by
   obtain ⟨hi, e⟩ := Array.getElem?_eq_some_iff.1 ho
   rw [List.drop_eq_getElem_cons (by simpa using hi)]
   simp [← e]
  have lk : ∀ w', Grow w w' → left (i + 1) env w' := fun w' hG x hx hc => hm x hx _ _ _ hG (hl' x hx hc)
  match k, hq, h with
  | none, hq, ⟨o, ho, v, hv, ht⟩ =>
   rw [hd o ho]
   unfold wpList
   rcases hv with ⟨hw, hr⟩ | ⟨hw, rfl⟩
   · rw [if_pos hw]
     refine .inl ?_
     unfold Oper.wp
     rw [hr w hR]
     exact T_list htrans L (i + 1) _ env w hq.2 ht hR hl' hm
   · rw [if_neg (by rw [hw]; simp)]
     exact T_list htrans L (i + 1) _ env w hq.2 ht hR hl' hm
  | some ⟨wr, cons, .inl c⟩, hq, ⟨o, ho, hw, hr, ht⟩ =>
   rw [hd o ho]
   unfold wpList
   rw [if_pos hw]
   have hwr : wr = false := by cases wr <;> simp_all [quietK]
   refine .inl (OpOK_wp (hr w hR hg) ?_)
   rintro v w' ⟨rfl, h1, h2⟩
   exact T_list htrans L (i + 1) _ env w' hq.2 ht (htrans _ _ _ hR h1) (lk _ (h2 hwr)) hm
  | some ⟨wr, cons, .inr Φ⟩, hq, ⟨hmono, o, ho, hw, hr, ht⟩ =>
   rw [hd o ho]
   unfold wpList
   rw [if_pos hw]
   have hwr : wr = false := by cases wr <;> simp_all [quietK]
   refine .inl (OpOK_wp (hr w hR hg) ?_)
   rintro v w' ⟨h0, h1, h2⟩
   refine T_list htrans L (i + 1) _ _ w' hq.2 (ht v) (htrans _ _ _ hR h1) ?_ ?_
   · intro x hx hc
     rcases List.mem_cons.1 hx with rfl | hx
     · exact h0
     · exact lk _ (h2 hwr) x hx hc
   · intro x hx
     rcases List.mem_cons.1 hx with rfl | hx
     · exact hmono
     · exact hm x hx
theorem wp_region_F {P : Program} {ops : Array Oper} {Q : Exit → Act → World → Prop} {id : Nat} {a : Act} {w : World} (R : World → World → Prop) (hrefl : ∀ x, R x x) (htrans : ∀ x y z, R x y → R y z → R x z)
 {L : List Kind} (h : T P ops R w Q L 0 a []) (hL : L.all quietK = true) : (Code.region id ops false).wp P Q a w :=
 wp_region_list (T_list htrans L 0 a [] w hL h (hrefl _) (fun x hx => by cases hx) (fun x hx => by cases hx))
variable {P : Program} {ops : Array Oper} {Q : Exit → Act → World → Prop}
theorem wpAny_T {a : Act} {w : World} (m np : Nat) (hsz : a.tmps.size = m) (hform : form ops m np = true) (R : World → World → Prop) (hrefl : ∀ x, R x x) (htrans : ∀ x y z, R x y → R y z → R x z)
 {L : List Kind} (h : T P ops R w.drew Q L 0 a []) (hL : L.length = np) (hwok : wok ops L = true) : wpAny P .any ops Q ops.size (Array.replicate ops.size false) a w.drew := by
 subst hsz
 subst hL
 have F := form_open hform
 have O := T_obl L h (hrefl _) F.le hwok
 refine inv_any F O hrefl htrans _ _ _ w.drew (fun _ => undef) ⟨?_, by simp, rfl, rfl, hrefl _, ?_, ?_, ?_, fun _ _ => rfl⟩ ?_
 · intro i hl; simp [Array.getD_eq_getD_getElem?, Array.getElem?_replicate] at hl; split at hl <;> cases hl
 · intro i o _ hl; simp [Array.getD_eq_getD_getElem?, Array.getElem?_replicate] at hl; split at hl <;> cases hl
 · intro i o d _ hl; simp [Array.getD_eq_getD_getElem?, Array.getElem?_replicate] at hl; split at hl <;> cases hl
 · intro i wr cons Φ _ hl; simp [Array.getD_eq_getD_getElem?, Array.getElem?_replicate] at hl; split at hl <;> cases hl
 · refine Nat.le_trans (List.length_filter_le _ _) ?_
   simp
def noDefer (ops : Array Oper) : Bool := ops.all fun o => match o.op with | .defer _ => false | _ => true
theorem wpIn_of_wp {l : Nat} {o : Oper} {a : Act} {w : World} {K K' : Act → World → Prop} (hnd : ∀ c, o.op ≠ .defer c) (hK : ∀ a w, K a w → K' a w) (h : o.wp P a w K Q) : o.wpIn (Fence.wide.inRound l) 0 P a w K' Q := by
 refine ⟨fun f _ => trivial, ?_⟩
 rw [Oper.semAt_eq _ _ _ hnd]
 unfold Oper.wp at h
 generalize (execOp a.eval o).run P w = r at *
 cases r with
 | ok n w' =>
  cases n with
  | value v => exact hK _ _ h
  | skip => exact hK _ _ h
  | defer d => exact hK _ _ h
  | enter f args =>
   rw [Oper.uponIn_enter]
   refine And.intro (fun e => by cases e) ?_
   refine CallsIn.inRound l ((callsIn_wide (n := 0)).2 (Calls.mono h fun e w'' he => ?_))
   cases e with
   | returned v => exact hK _ _ he
   | panicked c => exact he
   | outgrown => exact he
  | row row args =>
   rw [Oper.uponIn_row]
   refine And.intro (fun e => by cases e) ?_
   intro c cs _
   obtain ⟨v, w'', r, s⟩ := h c cs
   exact ⟨v, w'', hK _ _ r, stepsIn_wide.2 s⟩
  | _ => exact h.elim
 | halt x w' =>
  cases x <;> first | exact h | exact h.elim
theorem wpAnyIn_of_wpAny {l : Nat} (hnd : ∀ (i : Nat) (o : Oper), ops[i]? = some o → ∀ c, o.op ≠ .defer c) (hlo : ¬ LetsOut Q) : ∀ (fuel : Nat) (listed : Array Bool) (a : Act) (w : World),
 wpAny P .any ops Q fuel listed a w → wpAnyIn (Fence.wide.inRound l) 0 P .any ops Q fuel listed a w
 | 0, _, _, _, h => h
 | fuel + 1, listed, a, w, ⟨h0, h1⟩ => by
  refine ⟨h0, fun i hi => ?_⟩
  have h2 := h1 i hi
  unfold wpOp at h2
  unfold wpOpIn
  cases ho : ops[i]? with
  | none => rw [ho] at h2; exact wpAnyIn_of_wpAny hnd hlo fuel _ a w h2
  | some o =>
   rw [ho] at h2
   simp only at h2 ⊢
   split
   · rename_i hw
     rw [if_pos hw] at h2
     rcases h2 with h2 | h2
     · exact wpIn_of_wp (hnd i o ho) (fun a' w' h => wpAnyIn_of_wpAny hnd hlo fuel _ a' w' h) h2
     · exact absurd h2.2 hlo
   · rename_i hw
     rw [if_neg hw] at h2
     exact ⟨fun f _ => trivial, wpAnyIn_of_wpAny hnd hlo fuel _ _ w h2⟩
theorem noDefer_of (h : noDefer ops = true) (i : Nat) (o : Oper) (ho : ops[i]? = some o) : ∀ c, o.op ≠ .defer c := fun c e => by
 unfold noDefer at h
 rw [Array.all_eq_true_iff_forall_mem] at h
 have := h o (Array.mem_of_getElem? ho)
 rw [e] at this
 cases this
theorem wpIn_region_T {l : Nat} {id : Nat} {a : Act} {w : World} (hm : P.follows .mixedOrders = true) (m np : Nat) (hsz : a.tmps.size = m) (hform : form ops m np = true) (hnd : noDefer ops = true) (hlo : ¬ LetsOut Q) (R : World → World → Prop) (hrefl : ∀ x, R x x) (htrans : ∀ x y z, R x y → R y z → R x z)
 {L : List Kind} (h : T P ops R w.drew Q L 0 a []) (hL : L.length = np) (hwok : wok ops L = true) : (Code.region id ops true).wpIn (Fence.wide.inRound l) 0 P Q a w :=
 wpIn_region_any hm (wpAnyIn_of_wpAny (noDefer_of hnd) hlo _ _ _ _ (wpAny_T m np hsz hform R hrefl htrans h hL hwok))
end Go.Proofs.Yteellfgiejnigaa.RegT
namespace Go.Proofs.Yteellfgiejnigaa
open Go.RowKit Go.Deep
set_option linter.unusedVariables false
theorem mem_weightsAll {H : Type} {P : Program} {e : TypeId} {d : DataW H} {x : Nat} (hx : x ∈ d.weights P e) : ∀ {l : List (DataW H)}, d ∈ l → x ∈ DataW.weightsAll P e l := by
 intro l h
 induction l with
 | nil => cases h
 | cons y l ih =>
  rw [DataW.weightsAll, List.mem_append]
  cases h with
  | head => exact .inl hx
  | tail _ h => exact .inr (ih h)
end Go.Proofs.Yteellfgiejnigaa
namespace Go.Proofs.Yteellfgiejnigaa
open Go.ChangeShapes Go.WideShapes Go.ChangeAt Go.RowKit Go.Deep
set_option linter.unusedVariables false
section
variable {H : Type} {enc : TypeId × Value → H} {P : Program} {w : World} {base : Nat} {spare : Nat → Bool} {held : Bool}
theorem RdB_of_trod {t e : TypeId} {d : DataW H} {p : List MemPlace} {a : Option Addr} {len cap : Nat} (ht : P.underlying t = some (.slice e)) (he : P.underlying e = some (.int .u8)) (hc : P.cellsOf e = 1)
 (h : DataW.Trod enc P w base (fun _ => true) true t (.slice a len cap) d p) : ∃ l, l.length = len ∧ RdB w (.slice a len cap) l := by
 obtain ⟨fuel, hf⟩ := h
 have hex : ∃ zs, IsRow .u8 w a len cap zs := by
  rcases open_ints ht he hc hf with ⟨hcs, _⟩ | ⟨x, l, c, zs, hcs, _, hl, hm, hz, _, hcell, hwz⟩
  · simp [Value.cells] at hcs
    obtain ⟨rfl, rfl, rfl⟩ := hcs
    exact ⟨[], .inl ⟨rfl, rfl, rfl, rfl⟩⟩
  · simp [Value.cells] at hcs
    obtain ⟨rfl, rfl, rfl⟩ := hcs
    exact ⟨zs, .inr ⟨_, rfl, hl, hm, by simpa using hz, hcell, hwz⟩⟩
 obtain ⟨zs, hz⟩ := hex
 exact RdB_of_row hz
theorem plain_of_cell {x : Addr} {v : Value} (h : w.cell? (x.add 0) = some v) : ∃ b off, x = ⟨b, off, none⟩ ∧ b < w.heap.size := by
 obtain ⟨b, off, sp⟩ := x
 have hb := block_lt_of_cell h
 unfold Addr.add at h hb
 simp only [if_true, World.cell?] at h hb
 split at h
 · split at h
   · cases h
   · rename_i hs
     exact ⟨b, off, by simpa using hs, hb⟩
 · cases h
theorem plain_add (b off i : Nat) : (⟨b, off, none⟩ : Addr).add i = ⟨b, off + i, none⟩ := by unfold Addr.add; split <;> simp_all
end
section
variable {H : Type} {enc : TypeId × Value → H} {P : Program} {w : World} {base : Nat} {held : Bool}
def Fits (P : Program) (t : TypeId) (d : DataW H) : Prop := ∀ x ∈ d.weights P t, x ≤ reachBytes
theorem Fits.arg {ts : List TypeId} {ds : List (DataW H)} (h : (DataW.weightsEach P ts ds).all (· ≤ reachBytes) = true) {j : Nat} {t : TypeId} {d : DataW H} (ht : ts[j]? = some t) (hd : ds[j]? = some d) : Fits P t d := by
 intro x hx
 have := List.all_eq_true.1 h x (DataW.weights_mem_each ht hd x hx)
 simpa using this
theorem open_structs_fit {t e : TypeId} {fs : Array Field} {C : Nat} {d : DataW H} {p : List MemPlace} {a : Option Addr} {len cap : Nat} (ht : P.underlying t = some (.slice e)) (he : P.underlying e = some (.struct fs)) (hC : P.cellsOf e = C) (hz : ∃ f : Field, f ∈ fs ∧ f.offset = 0 ∧ P.cellsOf f.type = 1) (hpos : 0 < C)
 (hs : Fits P t d) (h : DataW.Trod enc P w base (fun _ => true) held t (.slice a len cap) d p) :
 len ≤ cap ∧ cap ≤ maxLen ∧ (a = none → cap = 0) ∧ (0 < len → ∃ b off, a = some ⟨b, off, none⟩ ∧ b < w.heap.size ∧ ∀ i, i < len → ∀ f : Field, f ∈ fs → P.cellsOf f.type = 1 → f.offset < C →
  ∃ u y n, w.cell? ⟨b, off + i * C + f.offset, none⟩ = some u ∧ DataW.trod enc P w base (fun _ => true) held n f.type [u] = some y ∧ Fits P f.type y.1 ∧ ∀ x ∈ y.2, x ∈ p) := by
 obtain ⟨fuel, hf⟩ := h
 rcases Go.Deep.open_slice ht hf with ⟨hcs, _⟩ | ⟨x, len', cap', m, n, D, Pl, hcs, hb, hl, hm, hmm, hd, hx⟩
 · simp [Value.cells] at hcs
   obtain ⟨rfl, rfl, rfl⟩ := hcs
   exact ⟨Nat.le_refl _, Nat.zero_le _, fun _ => rfl, fun h => absurd h (Nat.lt_irrefl _)⟩
 · simp [Value.cells] at hcs
   obtain ⟨rfl, rfl, rfl⟩ := hcs
   simp only [if_true] at hmm
   subst hmm
   simp only [Prod.mk.injEq] at hd
   obtain ⟨rfl, hp⟩ := hd
   have each : ∀ i, i < len → ∀ f : Field, f ∈ fs → P.cellsOf f.type = 1 → f.offset < C → ∃ u y n, w.cell? (x.add (i * C + f.offset)) = some u ∧ DataW.trod enc P w base (fun _ => true) held n f.type [u] = some y ∧ Fits P f.type y.1 ∧ ∀ x ∈ y.2, x ∈ p := by
    intro i hi f hf hc1 ho
    obtain ⟨cs', hc, ht'⟩ := hx i (Nat.lt_of_lt_of_le hi hl)
    rw [hC] at hc
    obtain ⟨ys, n', _, hyx, hlen, hyl, hff⟩ := DataW.trod_struct he ht'
    obtain ⟨_, hcl, hat⟩ := World.cells?_some hc
    obtain ⟨j, hj, hfj⟩ := Array.mem_iff_getElem.1 hf
    have h1 := hff j f (by rw [Array.getElem?_eq_getElem hj, hfj])
    rw [hc1] at h1
    have hol : f.offset < cs'.length := by omega
    have hone : (cs'.drop f.offset).take 1 = [cs'[f.offset]] := by rw [List.drop_eq_getElem_cons hol]; rfl
    rw [hone] at h1
    have hys : ys[j]? = some (ys[j]'(by omega)) := List.getElem?_eq_getElem (by omega)
    refine ⟨cs'[f.offset], _, n', ?_, h1.trans hys, ?_, ?_⟩
    · rw [← Go.Deep.add_add, hat f.offset ho, List.getElem?_eq_getElem hol]
    · intro z hz
      simp only [Prod.mk.injEq] at hyx
      refine hs z ?_
      rw [DataW.weights, ht]
      refine List.mem_cons_of_mem _ (List.mem_append_left _ (mem_weightsAll (d := D i) ?_ (List.mem_map.2 ⟨i, List.mem_range.2 hi, rfl⟩)))
      rw [hyx.1, DataW.weights, he]
      refine DataW.weights_mem_each (j := j) (t := f.type) (d := (ys[j]'(by omega)).1) ?_ ?_ z hz
      · rw [List.getElem?_map, Array.getElem?_toList, Array.getElem?_eq_getElem hj, hfj]; rfl
      · rw [List.getElem?_map, hys]; rfl
    · intro z hz
      simp only [Prod.mk.injEq] at hyx
      rw [hp]
      refine List.mem_append_right _ (List.mem_flatMap.2 ⟨i, List.mem_range.2 (Nat.lt_of_lt_of_le hi hl), ?_⟩)
      rw [hyx.2]
      exact List.mem_flatMap.2 ⟨_, List.getElem_mem _, hz⟩
   refine ⟨hl, hm, (fun h => by cases h), fun hpos' => ?_⟩
   obtain ⟨f0, hf0, ho0, hc0⟩ := hz
   obtain ⟨u, y, n0, hcell, _⟩ := each 0 hpos' f0 hf0 hc0 (by omega)
   rw [ho0, Nat.zero_mul] at hcell
   obtain ⟨b, off, rfl, hb3⟩ := plain_of_cell hcell
   refine ⟨b, off, rfl, hb3, fun i hi f hf hc1 ho => ?_⟩
   obtain ⟨u, y, n1, h1, h2⟩ := each i hi f hf hc1 ho
   rw [plain_add, ← Nat.add_assoc] at h1
   exact ⟨u, y, n1, h1, h2⟩
end
end Go.Proofs.Yteellfgiejnigaa
