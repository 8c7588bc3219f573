/- Laws on operations, over any program: an alloc of whatever type; cells of a block that is known whole; sums of numbers by bits. -/
import Derived.WalkKit
namespace Go.Proofs.Yteellfgiejnigaa
open Go.RowKit

section
variable {P : Program} {ops : Array Oper} {rest : List Oper} {o : Oper} {a : Act} {w : World} {Q : Exit → Act → World → Prop}

/-- An alloc of a type whose zero value is known. -/
theorem wpList_alloc_zero (hgd : o.guard = none) (ty : TypeId) (ho : o.op = .alloc ty) (cs : Array Value) (hz : ((P.info? ty).bind (·.zero)).map Value.cells = some cs)
    (h : wpList P ops Q rest (a.put o.dst (.pointer (some ⟨w.heap.size, 0, none⟩))) (w.alloc (.cells cs ty))) : wpList P ops Q (o :: rest) a w := by
  refine wpList_plain hgd fun _ hK => ?_
  have hK := hK _ _ h
  unfold Oper.wp execOp
  simp only [ho]
  cases hi : P.info? ty with
  | none => simp [hi] at hz
  | some i =>
    cases hz' : i.zero with
    | none => simp [hi, hz'] at hz
    | some z =>
      simp [hi, hz'] at hz
      subst hz
      simp [Instr.alloc, zeroValue, typeInfo, hi, hz', newVar, newRow, Sem.run_bind]
      exact hK
end

/-- A byte's value. -/
def vb (b : UInt8) : Value := .int .u8 (b.toNat : Int)
/-- What was there is there. -/
def Keeps (w w' : World) : Prop := ∀ k, k < w.heap.size → w'.heap[k]? = w.heap[k]?
theorem Keeps.cell {w w' : World} (h : Keeps w w') {a : Addr} {v : Value} (hc : w.cell? a = some v) : w'.cell? a = some v := by
  rw [World.cell?_of_block (h a.block (block_lt_of_cell hc))]; exact hc
theorem Below.keeps {w w' : World} (h : Below w.heap.size w w') : Keeps w w' := h.block
theorem Keeps.refl (w : World) : Keeps w w := fun _ _ => rfl
theorem Keeps.of_heap {w w' : World} (h : w'.heap = w.heap) : Keeps w w' := fun _ _ => by rw [h]
theorem keeps_lt {w w' : World} (h : Keeps w w') : w.heap.size ≤ w'.heap.size := by
  rcases Nat.eq_zero_or_pos w.heap.size with e | e
  · omega
  · have h1 := h (w.heap.size - 1) (by omega)
    rw [Array.getElem?_eq_getElem (show w.heap.size - 1 < w.heap.size by omega)] at h1
    have := (Array.getElem?_eq_some_iff.1 h1).1
    omega
theorem Keeps.trans {a b c : World} (h : Keeps a b) (k : Keeps b c) : Keeps a c := fun i hi => (k i (Nat.lt_of_lt_of_le hi (keeps_lt h))).trans (h i hi)
theorem Keeps.alloc {a w : World} (h : Keeps a w) (o : Obj) : Keeps a (w.alloc o) := h.trans fun k hk => Below.heap_alloc w o k hk
theorem Keeps.drew {a w : World} (h : Keeps a w) : Keeps a w.drew := h

/-- These bytes lie at p. -/
def PtB (w : World) (p : Option Addr) (cap : Nat) (l : List UInt8) : Prop :=
  (p = none → cap = 0) ∧ l.length ≤ cap ∧ cap ≤ maxLen ∧ (l ≠ [] → ∃ b off, p = some ⟨b, off, none⟩ ∧ ∀ i, i < l.length → w.cell? ⟨b, off + i, none⟩ = some (.int .u8 ((l.getD i 0).toNat : Int)))
/-- The value reads as these bytes. -/
def RdB (w : World) (v : Value) (l : List UInt8) : Prop := ∃ p cap, v = .slice p l.length cap ∧ PtB w p cap l

theorem PtB.at {w : World} {p : Option Addr} {cap : Nat} {l : List UInt8} (h : PtB w p cap l) {k : Nat} (hk : k < l.length) :
    ∃ b off, p = some ⟨b, off, none⟩ ∧ b < w.heap.size ∧ w.cell? ⟨b, off + k, none⟩ = some (.int .u8 ((l.getD k 0).toNat : Int)) := by
  obtain ⟨b, off, rfl, hc⟩ := h.2.2.2 (by rintro rfl; simp at hk)
  exact ⟨b, off, rfl, block_lt_of_cell (hc k hk), hc k hk⟩

/-- What is there is there in a world that has grown. -/
theorem PtB.keeps {w w' : World} {p : Option Addr} {cap : Nat} {l : List UInt8} (h : PtB w p cap l) (hb : Keeps w w') : PtB w' p cap l := by
  refine ⟨h.1, h.2.1, h.2.2.1, fun hl => ?_⟩
  obtain ⟨b, off, rfl, hc⟩ := h.2.2.2 hl
  exact ⟨b, off, rfl, fun i hi => hb.cell (hc i hi)⟩
theorem RdB.keeps {w w' : World} {v : Value} {l : List UInt8} (h : RdB w v l) (hb : Keeps w w') : RdB w' v l := by
  obtain ⟨p, cap, rfl, h⟩ := h
  exact ⟨p, cap, rfl, h.keeps hb⟩
theorem PtB.below {w w' : World} {p : Option Addr} {cap : Nat} {l : List UInt8} (h : PtB w p cap l) (hb : Below w.heap.size w w') : PtB w' p cap l := h.keeps hb.block
theorem RdB.below {w w' : World} {v : Value} {l : List UInt8} (h : RdB w v l) (hb : Below w.heap.size w w') : RdB w' v l := h.keeps hb.block
theorem RdB.le {w : World} {v : Value} {l : List UInt8} (h : RdB w v l) : l.length ≤ 9223372036854775807 := by
  obtain ⟨p, cap, rfl, h⟩ := h
  have h1 := h.2.1
  have h2 := h.2.2.1
  unfold maxLen at h2
  omega

/-- These values lie at p, a cell each. -/
def PtV (w : World) (p : Option Addr) (cap : Nat) (vs : List Value) : Prop :=
  (p = none → cap = 0) ∧ vs.length ≤ cap ∧ cap ≤ maxLen ∧ (vs ≠ [] → ∃ b off, p = some ⟨b, off, none⟩ ∧ ∀ i, i < vs.length → w.cell? ⟨b, off + i, none⟩ = some (vs.getD i undef))
theorem PtV.at {w : World} {p : Option Addr} {cap : Nat} {vs : List Value} (h : PtV w p cap vs) {k : Nat} (hk : k < vs.length) :
    ∃ b off, p = some ⟨b, off, none⟩ ∧ b < w.heap.size ∧ w.cell? ⟨b, off + k, none⟩ = some (vs.getD k undef) := by
  obtain ⟨b, off, rfl, hc⟩ := h.2.2.2 (by rintro rfl; simp at hk)
  exact ⟨b, off, rfl, block_lt_of_cell (hc k hk), hc k hk⟩
theorem PtV.keeps {w w' : World} {p : Option Addr} {cap : Nat} {l : List Value} (h : PtV w p cap l) (hb : Keeps w w') : PtV w' p cap l := by
  refine ⟨h.1, h.2.1, h.2.2.1, fun hl => ?_⟩
  obtain ⟨b, off, rfl, hc⟩ := h.2.2.2 hl
  exact ⟨b, off, rfl, fun i hi => hb.cell (hc i hi)⟩
/-- The value is a slice of slices that read as these lists of bytes. -/
def RdBs (w : World) (v : Value) (ls : List (List UInt8)) : Prop :=
  ∃ p cap vs, v = .slice p vs.length cap ∧ PtV w p cap vs ∧ vs.length = ls.length ∧ ∀ i, i < vs.length → RdB w (vs.getD i undef) (ls.getD i [])
theorem RdBs.keeps {w w' : World} {v : Value} {ls : List (List UInt8)} (h : RdBs w v ls) (hb : Keeps w w') : RdBs w' v ls := by
  obtain ⟨p, cap, vs, rfl, h1, h2, h3⟩ := h
  exact ⟨p, cap, vs, rfl, h1.keeps hb, h2, fun i hi => (h3 i hi).keeps hb⟩

theorem heap_alloc_get (w : World) (o : Obj) (k : Nat) : (w.alloc o).heap[k]? = if k = w.heap.size then some o else w.heap[k]? := by
  show (w.heap.push o)[k]? = _
  rw [Array.getElem?_push]

theorem heap_alloc_size (w : World) (o : Obj) : (w.alloc o).heap.size = w.heap.size + 1 := Array.size_push ..

/-- A row of bytes from the head of a block. -/
theorem RdB_of_block {w : World} {b cap n : Nat} {e : TypeId} {fr : Nat × Nat} {cs : Array Value} {l : List UInt8} (hb : w.heap[b]? = some (.cells cs e fr)) (hn : n = l.length) (h1 : n ≤ cap) (h2 : cap ≤ maxLen)
    (hc : ∀ i, i < l.length → cs[i]? = some (.int .u8 ((l.getD i 0).toNat : Int))) : RdB w (.slice (some ⟨b, 0, none⟩) n cap) l := by
  subst hn
  exact ⟨_, _, rfl, ⟨(fun h => by cases h), h1, h2, fun _ => ⟨b, 0, rfl, fun i hi => by rw [cell_of_row _ _ _ _ _ _ hb, Nat.zero_add]; exact hc i hi⟩⟩⟩
theorem RdBs_of_block {w : World} {b cap n : Nat} {e : TypeId} {fr : Nat × Nat} {cs : Array Value} {vs : List Value} {ls : List (List UInt8)} (hb : w.heap[b]? = some (.cells cs e fr)) (hn : n = vs.length) (h1 : n ≤ cap) (h2 : cap ≤ maxLen)
    (hc : ∀ i, i < vs.length → cs[i]? = some (vs.getD i undef)) (hl : vs.length = ls.length) (hr : ∀ i, i < vs.length → RdB w (vs.getD i undef) (ls.getD i [])) : RdBs w (.slice (some ⟨b, 0, none⟩) n cap) ls := by
  subst hn
  exact ⟨_, _, vs, rfl, ⟨(fun h => by cases h), h1, h2, fun _ => ⟨b, 0, rfl, fun i hi => by rw [cell_of_row _ _ _ _ _ _ hb, Nat.zero_add]; exact hc i hi⟩⟩, hl, hr⟩

theorem getD_of_lt {α : Type} (l : List α) (i : Nat) (d : α) (h : i < l.length) : l.getD i d = l[i] := by simp [List.getD, h]

/-- WHAT THE WALK IS TOLD OF A SLICE OF INTEGERS THAT CAME IN. -/
def IsRow (k : IntKind) (w : World) (a : Option Addr) (len cap : Nat) (zs : List Int) : Prop :=
  (a = none ∧ len = 0 ∧ cap = 0 ∧ zs = []) ∨
  ∃ x, a = some x ∧ len ≤ cap ∧ cap ≤ maxLen ∧ zs.length = cap ∧ (∀ i, i < zs.length → w.cell? (x.add i) = some (.int k (zs.getD i 0))) ∧ ∀ n ∈ zs, (Lit.int k n).wf = true
theorem RdB_of_row {w : World} {a : Option Addr} {len cap : Nat} {zs : List Int} (h : IsRow .u8 w a len cap zs) : ∃ l, l.length = len ∧ RdB w (.slice a len cap) l := by
  rcases h with ⟨rfl, rfl, rfl, rfl⟩ | ⟨x, rfl, h1, h2, h3, h4, h5⟩
  · exact ⟨[], rfl, _, _, rfl, ⟨fun _ => rfl, Nat.le_refl _, by unfold maxLen; omega, fun h => absurd rfl h⟩⟩
  · have hlen : ((zs.take len).map fun z => UInt8.ofNat z.toNat).length = len := by simp; omega
    refine ⟨(zs.take len).map fun z => UInt8.ofNat z.toNat, hlen, some x, cap, by rw [hlen], ⟨(fun h => by cases h), by omega, h2, fun hl => ?_⟩⟩
    have hpos : 0 < len := by rcases Nat.eq_zero_or_pos len with e | e; · subst e; simp at hl
                              · exact e
    have hc0 := h4 0 (by omega)
    obtain ⟨b, off, sp⟩ := x
    have hsp : sp = none := by
      unfold Addr.add at hc0
      simp only [if_true, World.cell?] at hc0
      split at hc0
      · split at hc0
        · cases hc0
        · rename_i hs; simpa using hs
      · cases hc0
    subst hsp
    refine ⟨b, off, rfl, fun i hi => ?_⟩
    rw [hlen] at hi
    have hc := h4 i (by omega)
    have hadd : (⟨b, off, none⟩ : Addr).add i = ⟨b, off + i, none⟩ := by unfold Addr.add; split <;> simp_all
    rw [hadd] at hc
    rw [hc]
    have hwf := h5 (zs.getD i 0) (by rw [getD_of_lt _ _ _ (show i < zs.length by omega)]; exact List.getElem_mem _)
    have hbd : 0 ≤ zs.getD i 0 ∧ zs.getD i 0 ≤ 255 := by simpa [Lit.wf, IntKind.min, IntKind.max, IntKind.signed, IntKind.bits] using hwf
    have e : ((zs.take len).map fun z => UInt8.ofNat z.toNat).getD i 0 = UInt8.ofNat (zs.getD i 0).toNat := by
      rw [getD_of_lt _ _ _ (by rw [hlen]; exact hi), List.getElem_map, List.getElem_take, getD_of_lt _ _ _ (show i < zs.length by omega)]
    rw [e]
    simp only [UInt8.toNat_ofNat']
    congr 2
    omega

theorem Below_setRow {B : Nat} {a w : World} (h : Below B a w) {g : Nat} (hg : B ≤ g) (cs : Array Value) : Below B a (w.setRow g cs) :=
  h.trans ⟨rfl, rfl, rfl, by simp, fun k hk => setRow_other w g k cs (by omega)⟩

/-! ### Rows of the call's own -/

/-- A slice type, its element type, and what the program's table says of that. -/
structure Elem (P : Program) (t e : TypeId) (z : Value) (size bytes : Nat) : Prop where
  sl : P.underlying t = some (.slice e)
  info : (P.info? e).map (fun i => (i.zero, i.size, i.bytes)) = some (some z, size, bytes)
  zs : z.cells.size = size
  pos : 0 < size

theorem own_below {w w' : World} {base : Nat} {e : TypeId} {size : Nat} {v : Value} {n : Nat} {xs : List Value} (h : w.ownsRow base e size v n xs) (hb : Below w.heap.size w w') : w'.ownsRow base e size v n xs := by
  refine ⟨h.1, ?_⟩
  rcases h.2 with h2 | ⟨g, cap, cur, hv, hg, hh, r⟩
  · exact .inl h2
  · exact .inr ⟨g, cap, cur, hv, hg, by rw [hb.block g (Array.getElem?_eq_some_iff.1 hh).1]; exact hh, r⟩
theorem below_grown {w w' : World} {row : Option Nat} (hg : w.grownBy w' row) (B : Nat) (hB : B ≤ w.heap.size) (hr : ∀ k, row = some k → B ≤ k) : Below B w w' :=
  (Below.refl B w).grown hg hB hr
theorem below_own {w w' : World} {base : Nat} {e : TypeId} {size : Nat} {v : Value} {n : Nat} {xs : List Value} (h : w.ownsRow base e size v n xs) (hg : w.grownBy w' v.ownBlock) (hB : base ≤ w.heap.size) : Below base w w' :=
  below_grown hg base hB (fun k hk => (h.lt k hk).1)

/-- What append reads of its second argument. -/
def SrcR (w : World) (size : Nat) (x : Value) (m : Nat) (news : List Value) : Prop :=
  ∃ p c, x = .slice p m c ∧ news.length = m * size ∧ (∀ u ∈ news, u.oneCell' = true) ∧ ((p = none ∧ m = 0 ∧ c = 0) ∨ ∃ a, p = some a ∧ ∀ j u, news[j]? = some u → w.cell? (a.add j) = some u)

section
variable {P : Program} {ops : Array Oper} {rest : List Oper} {o : Oper} {a : Act} {w : World} {Q : Exit → Act → World → Prop}

theorem run_append_src {base : Nat} {t ty e : TypeId} {z : Value} {size bytes : Nat} (he : Elem P t e z size bytes)
    {v : Value} {n : Nat} {xs : List Value} (hown : w.ownsRow base e size v n xs) {x : Value} {m : Nat} {news : List Value} (hsrc : SrcR w size x m news)
    (h63 : n + m ≤ maxLen) (hbytes : (n + m) * bytes ≤ 140737488355328) (hbase : base ≤ w.heap.size) :
    ∃ v' w', (Builtin.append_ #[t, t] ty #[v, x]).run P w = .ok v' w' ∧ w'.ownsRow base e size v' (n + m) (xs ++ news) ∧ w.grownBy w' v.ownBlock := by
  obtain ⟨i, hi, hz, hs, hb⟩ := info_parts he.info
  obtain ⟨p, c, rfl, hl, h1, hp⟩ := hsrc
  rcases hp with ⟨rfl, rfl, rfl⟩ | ⟨ad, rfl, hnews⟩
  · have hn : news = [] := List.eq_nil_of_length_eq_zero (by simpa using hl)
    subst hn
    exact ⟨v, w, run_append_owned_none w base t ty e i size he.sl hi v n xs hown, by simpa using hown, World.grownBy.refl _ _⟩
  · obtain ⟨v', w', h2, h3, h4, _⟩ := run_append_own (P := P) w base t ty e i z size bytes he.sl hi hz hs hb he.zs he.pos v n xs hown ad m c news hl hnews h1 h63 hbytes hbase
    exact ⟨v', w', h2, h3, h4⟩

theorem wpList_append_src (hgd : o.guard = none) (s x : Operand) (t : TypeId) (ho : o.op = .call { callee := .builtin .append, args := #[s, x], argTypes := #[t, t] })
    {base : Nat} {e : TypeId} {z : Value} {size bytes : Nat} (he : Elem P t e z size bytes)
    {v : Value} {n : Nat} {xs : List Value} (hs : a.eval s = v) (hown : w.ownsRow base e size v n xs) {xv : Value} {m : Nat} {news : List Value} (hx : a.eval x = xv) (hsrc : SrcR w size xv m news)
    (h63 : n + m ≤ maxLen) (hbytes : (n + m) * bytes ≤ 140737488355328) (hbase : base ≤ w.heap.size)
    (h : ∀ v' w', w'.ownsRow base e size v' (n + m) (xs ++ news) → w.grownBy w' v.ownBlock → wpList P ops Q rest (a.put o.dst v') w') : wpList P ops Q (o :: rest) a w := by
  refine wpList_plain hgd fun _ hK => ?_
  obtain ⟨v', w', hr, h2, h3⟩ := run_append_src (ty := o.type) he hown hsrc h63 hbytes hbase
  unfold Oper.wp execOp
  simp only [ho, resolve, invoke, builtin, Sem.run_bind, Sem.run_pure, Result.andThen_ok, List.map_toArray, List.map_cons, List.map_nil, hs, hx, hr]
  exact hK _ _ (h v' w' h2 h3)
end

/-! ### Rows of bytes -/

/-- The value is a row of bytes of the call's own (from block 'base' on). -/
def OB (w : World) (base : Nat) (e : TypeId) (v : Value) (l : List UInt8) : Prop := w.ownsRow base e 1 v l.length (l.map vb)
theorem OB.keeps {w w' : World} {base : Nat} {e : TypeId} {v : Value} {l : List UInt8} (h : OB w base e v l) (hb : Keeps w w') : OB w' base e v l := by
  refine ⟨h.1, ?_⟩
  rcases h.2 with h2 | ⟨g, cap, cur, hv, hg, hh, r⟩
  · exact .inl h2
  · exact .inr ⟨g, cap, cur, hv, hg, by rw [hb g (Array.getElem?_eq_some_iff.1 hh).1]; exact hh, r⟩
theorem OB.below {w w' : World} {base : Nat} {e : TypeId} {v : Value} {l : List UInt8} (h : OB w base e v l) (hb : Below w.heap.size w w') : OB w' base e v l := own_below h hb
theorem OB.rd {w : World} {base : Nat} {e : TypeId} {v : Value} {l : List UInt8} (h : OB w base e v l) : RdB w v l := by
  rcases h.2 with ⟨rfl, hn⟩ | ⟨g, cap, cur, rfl, hg, hh, h1, h2, h3, h4⟩
  · have : l = [] := List.eq_nil_of_length_eq_zero hn
    subst this
    exact ⟨none, 0, rfl, ⟨fun _ => rfl, Nat.le_refl _, by unfold maxLen; omega, fun h => absurd rfl h⟩⟩
  · refine ⟨_, _, rfl, ⟨(fun h => by cases h), h1, h2, fun _ => ⟨g, 0, rfl, fun i hi => ?_⟩⟩⟩
    rw [cell_of_row _ _ _ _ _ _ hh, Nat.zero_add]
    have h5 : (l.map vb)[i]? = some (vb (l.getD i 0)) := by rw [List.getElem?_map, List.getElem?_eq_getElem hi, getD_of_lt _ _ _ hi]; rfl
    rw [← h4, List.getElem?_take, if_pos (by omega)] at h5
    simpa [vb] using h5
theorem OB.set {w : World} {base : Nat} {e : TypeId} {g cap n : Nat} {l : List UInt8} (h : OB w base e (.slice (some ⟨g, 0, none⟩) n cap) l) (hn : n = l.length) (j : Nat) (b : UInt8) :
    OB (w.setCell ⟨g, j, none⟩ (.int .u8 (b.toNat : Int))) base e (.slice (some ⟨g, 0, none⟩) n cap) (l.set j b) := by
  subst hn
  have := (World.ownsRow.stored h j (vb b)).1
  unfold OB
  rw [List.length_set, List.map_set]
  exact this
theorem OB.cell {w : World} {base : Nat} {e : TypeId} {g cap n : Nat} {l : List UInt8} (h : OB w base e (.slice (some ⟨g, 0, none⟩) n cap) l) (hn : n = l.length) {j : Nat} (hj : j < l.length) :
    w.cell? ⟨g, j, none⟩ = some (.int .u8 ((l.getD j 0).toNat : Int)) ∧ w.frozen? ⟨g, j, none⟩ = false ∧ g < w.heap.size ∧ base ≤ g := by
  subst hn
  refine ⟨?_, World.ownsRow.frozenAt h j, (h.lt g rfl).2, (h.lt g rfl).1⟩
  rw [World.ownsRow.cellAt h j (by omega), List.getElem?_map, List.getElem?_eq_getElem hj, getD_of_lt _ _ _ hj]
  rfl
theorem OB.new (w : World) (e : TypeId) : OB (w.alloc (.cells #[] e)) w.heap.size e (.slice (some ⟨w.heap.size, 0, none⟩) 0 0) [] :=
  World.ownsRow_lit w #[] 0 (Nat.le_refl _) (by unfold maxLen; omega) rfl
theorem OB.nil (w : World) (base : Nat) (e : TypeId) : OB w base e (.slice none 0 0) [] := World.ownsRow_nil w base e 1
theorem RdB.src {w : World} {v : Value} {l : List UInt8} (h : RdB w v l) : SrcR w 1 v l.length (l.map vb) := by
  obtain ⟨p, cap, rfl, h1, h2, h3, h4⟩ := h
  refine ⟨p, cap, rfl, by simp, by simp [vb, Value.oneCell'], ?_⟩
  cases p with
  | none =>
    have hc := h1 rfl
    exact .inl ⟨rfl, by omega, hc⟩
  | some ad =>
    refine .inr ⟨ad, rfl, fun j u hu => ?_⟩
    have hj : j < l.length := by
      have := (List.getElem?_eq_some_iff.1 hu).1
      simpa using this
    obtain ⟨b, off, hp, hc⟩ := h4 (by rintro rfl; simp at hj)
    cases hp
    have hadd : (⟨b, off, none⟩ : Addr).add j = ⟨b, off + j, none⟩ := by unfold Addr.add; split <;> simp_all
    rw [hadd, hc j hj]
    rw [List.getElem?_map, List.getElem?_eq_getElem hj] at hu
    rw [getD_of_lt _ _ _ hj]
    simpa [vb] using hu

section
variable {P : Program} {ops : Array Oper} {rest : List Oper} {o : Oper} {a : Act} {w : World} {Q : Exit → Act → World → Prop}

theorem OB.form {w : World} {base : Nat} {e : TypeId} {v : Value} {l : List UInt8} (h : OB w base e v l) : ∃ p c, v = .slice p l.length c := by
  rcases h.2 with ⟨rfl, hn⟩ | ⟨g, cap, cur, rfl, _⟩
  · exact ⟨none, 0, by rw [hn]⟩
  · exact ⟨_, _, rfl⟩
theorem OB.some {w : World} {base : Nat} {e : TypeId} {p : Option Addr} {n c : Nat} {l : List UInt8} (h : OB w base e (.slice p n c) l) (hn : n ≠ 0) : ∃ g, p = some ⟨g, 0, none⟩ ∧ base ≤ g := by
  rcases h.2 with ⟨h1, _⟩ | ⟨g, cap, cur, h1, h2, _⟩
  · cases h1; exact absurd rfl hn
  · cases h1; exact ⟨g, rfl, h2⟩
/-- append(dst, src...) of bytes. -/
theorem wpList_append_bytes (hgd : o.guard = none) (s x : Operand) (t : TypeId) (ho : o.op = .call { callee := .builtin .append, args := #[s, x], argTypes := #[t, t] })
    {base : Nat} {e : TypeId} (he : Elem P t e (.int .u8 0) 1 1)
    {v : Value} {l : List UInt8} (hs : a.eval s = v) (hown : OB w base e v l) {xv : Value} {m : List UInt8} (hx : a.eval x = xv) (hsrc : RdB w xv m)
    (hlen : l.length + m.length ≤ 140737488355328) (hbase : base ≤ w.heap.size)
    (h : ∀ p n c w', n = (l ++ m).length → OB w' base e (.slice p n c) (l ++ m) → w.grownBy w' v.ownBlock → wpList P ops Q rest (a.put o.dst (.slice p n c)) w') : wpList P ops Q (o :: rest) a w :=
  wpList_append_src hgd s x t ho he hs hown hx hsrc.src (by unfold maxLen; omega) (by omega) hbase (fun v' w' h1 h2 => by
    have h3 : OB w' base e v' (l ++ m) := by unfold OB; rw [List.map_append, List.length_append]; exact h1
    obtain ⟨p, c, rfl⟩ := h3.form
    exact h p _ c w' rfl h3 h2)

/-- make([]byte, n). -/
theorem wpList_make_bytes (hgd : o.guard = none) (x y : Operand) (t : TypeId) (ho : o.op = .makeSlice t x y) {e : TypeId} (he : Elem P t e (.int .u8 0) 1 1) (n : Nat)
    (hx : a.eval x = .int .i64 (n : Int)) (hy : a.eval y = .int .i64 (n : Int)) (hn : n ≤ 140737488355328)
    (h : ∀ w', OB w' w.heap.size e (.slice (some ⟨w.heap.size, 0, none⟩) n n) (List.replicate n 0) → Below w.heap.size w w' → w.heap.size < w'.heap.size → wpList P ops Q rest (a.put o.dst (.slice (some ⟨w.heap.size, 0, none⟩) n n)) w') : wpList P ops Q (o :: rest) a w := by
  obtain ⟨i, hi, hz, hs, hb⟩ := info_parts he.info
  refine wpList_make_full w hgd x y t ho w.heap.size e i _ 1 he.sl hi hz hs .i64 .i64 _ _ n hx hy rfl rfl (by rw [hb]; omega) (by unfold maxLen; omega) (Nat.le_refl _) ?_
  intro w' h1 h2
  refine h w' ?_ (below_grown h2 _ (Nat.le_refl _) (by simp)) ((h1.lt _ rfl).2)
  unfold OB
  have e1 : (madeCells (Value.int .u8 0).cells (n * 1)).toList = (List.replicate n (0 : UInt8)).map vb := by
    rw [show (Value.int IntKind.u8 0).cells = #[Value.int .u8 0] from rfl, toList_madeCells_one, Nat.mul_one, List.map_replicate]
    rfl
  rw [← e1, List.length_replicate]
  exact h1
end

/-! ### Slices of slices -/
section
variable {P : Program}
theorem Addr_add_zero (a : Addr) : a.add 0 = a := rfl
theorem run_slice_hi (t e : TypeId) (ht : P.underlying t = some (.slice e)) (sz : Nat) (hsz : (P.info? e).map (·.size) = some sz) (p : Option Addr) (len cap : Nat) (h : Nat) (hh : h ≤ cap) (w : World) :
    (Instr.sliceAt t (.slice p len cap) none (some (.int .i64 (h : Int))) none).run P w = .ok (.slice p h cap) w := by
  obtain ⟨i, hi, hsi⟩ := Option.map_eq_some_iff.1 hsz
  have e1 : (p.map fun x => x.add (0 * sz)) = p := by cases p <;> simp [Addr_add_zero]
  have hb : (0 : Int) ≤ (h : Int) ∧ (h : Int) ≤ (cap : Int) := by omega
  simp [Instr.sliceAt, Instr.slice, Instr.sliceBounds, Instr.sliceBound, asIntOf, Sem.run_bind, run_underlying ht, sizeOf, typeInfo, hi, hh, Addr_add_zero]
theorem run_slice_lo (t e : TypeId) (ht : P.underlying t = some (.slice e)) (sz : Nat) (hsz : (P.info? e).map (·.size) = some sz) (p : Option Addr) (len cap : Nat) (l : Nat) (hl : l ≤ len) (w : World) :
    (Instr.sliceAt t (.slice p len cap) (some (.int .i64 (l : Int))) none none).run P w = .ok (.slice (if cap = l then p else p.map (·.add (l * sz))) (len - l) (cap - l)) w := by
  obtain ⟨i, hi, hsi⟩ := Option.map_eq_some_iff.1 hsz
  simp [Instr.sliceAt, Instr.slice, Instr.sliceBounds, Instr.sliceBound, asIntOf, Sem.run_bind, run_underlying ht, sizeOf, typeInfo, hi, hsi, hl]
theorem run_slice_lohi (t e : TypeId) (ht : P.underlying t = some (.slice e)) (sz : Nat) (hsz : (P.info? e).map (·.size) = some sz) (p : Option Addr) (len cap : Nat) (l h : Nat) (hl : l ≤ h) (hh : h ≤ cap) (w : World) :
    (Instr.sliceAt t (.slice p len cap) (some (.int .i64 (l : Int))) (some (.int .i64 (h : Int))) none).run P w = .ok (.slice (if cap = l then p else p.map (·.add (l * sz))) (h - l) (cap - l)) w := by
  obtain ⟨i, hi, hsi⟩ := Option.map_eq_some_iff.1 hsz
  simp [Instr.sliceAt, Instr.slice, Instr.sliceBounds, Instr.sliceBound, asIntOf, Sem.run_bind, run_underlying ht, sizeOf, typeInfo, hi, hsi, hl, hh]
end
/-- The beginning of a row of bytes. -/
theorem PtB.take {w : World} {p : Option Addr} {cap : Nat} {l : List UInt8} (h : PtB w p cap l) (n : Nat) : PtB w p cap (l.take n) := by
  refine ⟨h.1, by rw [List.length_take]; have := h.2.1; omega, h.2.2.1, fun hl => ?_⟩
  obtain ⟨b, off, rfl, hc⟩ := h.2.2.2 (by rintro rfl; simp at hl)
  refine ⟨b, off, rfl, fun i hi => ?_⟩
  rw [List.length_take] at hi
  rw [hc i (by omega)]
  congr 4
  simp only [List.getD, List.getElem?_take, show i < n by omega, if_true]

theorem xor_u32 (a b : Nat) (ha : a < 2 ^ 32) (hb : b < 2 ^ 32) : bits .xor .u32 (a : Int) (b : Int) = ((a ^^^ b : Nat) : Int) := by
  have e : bits .xor .u32 (a : Int) (b : Int) = IntKind.u32.wrap (((BitVec.ofInt 32 a ^^^ BitVec.ofInt 32 b : BitVec 32).toNat : Nat) : Int) := rfl
  rw [e, BitVec.toNat_xor, BitVec.ofInt_natCast, BitVec.ofInt_natCast, BitVec.toNat_ofNat, BitVec.toNat_ofNat, Nat.mod_eq_of_lt ha, Nat.mod_eq_of_lt hb]
  have := Nat.xor_lt_two_pow ha hb
  rw [IntKind.wrap_u32]; omega
theorem xor_u8 (a b : Nat) (ha : a < 2 ^ 8) (hb : b < 2 ^ 8) : bits .xor .u8 (a : Int) (b : Int) = ((a ^^^ b : Nat) : Int) := by
  have e : bits .xor .u8 (a : Int) (b : Int) = IntKind.u8.wrap (((BitVec.ofInt 8 a ^^^ BitVec.ofInt 8 b : BitVec 8).toNat : Nat) : Int) := rfl
  rw [e, BitVec.toNat_xor, BitVec.ofInt_natCast, BitVec.ofInt_natCast, BitVec.toNat_ofNat, BitVec.toNat_ofNat, Nat.mod_eq_of_lt ha, Nat.mod_eq_of_lt hb]
  have := Nat.xor_lt_two_pow ha hb
  rw [IntKind.wrap_u8]; omega
theorem and1_u32 (a : Nat) (ha : a < 2 ^ 32) : bits .and .u32 (a : Int) 1 = ((a % 2 : Nat) : Int) := by
  have e : bits .and .u32 (a : Int) 1 = IntKind.u32.wrap (((BitVec.ofInt 32 a &&& BitVec.ofInt 32 ((1 : Nat) : Int) : BitVec 32).toNat : Nat) : Int) := rfl
  rw [e, BitVec.toNat_and, BitVec.ofInt_natCast, BitVec.ofInt_natCast, BitVec.toNat_ofNat, BitVec.toNat_ofNat, Nat.mod_eq_of_lt ha, Nat.mod_eq_of_lt (by decide), Nat.and_one_is_mod]
  rw [IntKind.wrap_u32]; omega
end Go.Proofs.Yteellfgiejnigaa
