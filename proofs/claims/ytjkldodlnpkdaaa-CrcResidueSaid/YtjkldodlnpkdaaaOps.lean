/- Laws on operations, over any program: an alloc of whatever type; cells of a block that is known whole; sums of numbers by bits. -/
import Derived.WalkKit
namespace Go.Proofs.Ytjkldodlnpkdaaa
open Go.RowKit

section
variable {P : Program} {ops : Array Oper} {rest : List Oper} {o : Oper} {a : Act} {w : World} {Q : Exit → Act → World → Prop}

/-- An alloc of a type whose zero value is known. -/
theorem wpList_alloc_zero (hgd : o.guard = none) (ty : TypeId) (ho : o.op = .alloc ty) (cs : Array Value) (hz : ((P.info? ty).bind (·.zero)).map Value.cells = some cs)
    (h : wpList P ops Q rest (a.put o.dst (.pointer (some ⟨w.heap.size, 0, none⟩))) (w.alloc (.cells cs ty))) : wpList P ops Q (o :: rest) a w := by
  refine wpList_plain hgd fun _ hK => ?_
  have hK := hK _ _ h
  unfold Oper.wp execOp
  simp only [ho]
  cases hi : P.info? ty with
  | none => simp [hi] at hz
  | some i =>
    cases hz' : i.zero with
    | none => simp [hi, hz'] at hz
    | some z =>
      simp [hi, hz'] at hz
      subst hz
      simp [Instr.alloc, zeroValue, typeInfo, hi, hz', newVar, newRow, Sem.run_bind]
      exact hK
end

/-- A byte's value. -/
def vb (b : UInt8) : Value := .int .u8 (b.toNat : Int)
/-- These bytes lie at p. -/
def PtB (w : World) (p : Option Addr) (cap : Nat) (l : List UInt8) : Prop :=
  (p = none → cap = 0) ∧ l.length ≤ cap ∧ cap ≤ maxLen ∧ (l ≠ [] → ∃ b off, p = some ⟨b, off, none⟩ ∧ ∀ i, i < l.length → w.cell? ⟨b, off + i, none⟩ = some (.int .u8 ((l.getD i 0).toNat : Int)))
/-- The value reads as these bytes. -/
def RdB (w : World) (v : Value) (l : List UInt8) : Prop := ∃ p cap, v = .slice p l.length cap ∧ PtB w p cap l

theorem PtB.at {w : World} {p : Option Addr} {cap : Nat} {l : List UInt8} (h : PtB w p cap l) {k : Nat} (hk : k < l.length) :
    ∃ b off, p = some ⟨b, off, none⟩ ∧ b < w.heap.size ∧ w.cell? ⟨b, off + k, none⟩ = some (.int .u8 ((l.getD k 0).toNat : Int)) := by
  obtain ⟨b, off, rfl, hc⟩ := h.2.2.2 (by rintro rfl; simp at hk)
  exact ⟨b, off, rfl, block_lt_of_cell (hc k hk), hc k hk⟩

/-- What is there is there in a world that has grown. -/
theorem PtB.below {w w' : World} {p : Option Addr} {cap : Nat} {l : List UInt8} (h : PtB w p cap l) (hb : Below w.heap.size w w') : PtB w' p cap l := by
  refine ⟨h.1, h.2.1, h.2.2.1, fun hl => ?_⟩
  obtain ⟨b, off, rfl, hc⟩ := h.2.2.2 hl
  exact ⟨b, off, rfl, fun i hi => (hb.cell (block_lt_of_cell (hc i hi))).trans (hc i hi)⟩
theorem RdB.below {w w' : World} {v : Value} {l : List UInt8} (h : RdB w v l) (hb : Below w.heap.size w w') : RdB w' v l := by
  obtain ⟨p, cap, rfl, h⟩ := h
  exact ⟨p, cap, rfl, h.below hb⟩
theorem RdB.le {w : World} {v : Value} {l : List UInt8} (h : RdB w v l) : l.length ≤ 9223372036854775807 := by
  obtain ⟨p, cap, rfl, h⟩ := h
  have h1 := h.2.1
  have h2 := h.2.2.1
  unfold maxLen at h2
  omega

/-- These values lie at p, a cell each. -/
def PtV (w : World) (p : Option Addr) (cap : Nat) (vs : List Value) : Prop :=
  (p = none → cap = 0) ∧ vs.length ≤ cap ∧ cap ≤ maxLen ∧ (vs ≠ [] → ∃ b off, p = some ⟨b, off, none⟩ ∧ ∀ i, i < vs.length → w.cell? ⟨b, off + i, none⟩ = some (vs.getD i undef))
theorem PtV.at {w : World} {p : Option Addr} {cap : Nat} {vs : List Value} (h : PtV w p cap vs) {k : Nat} (hk : k < vs.length) :
    ∃ b off, p = some ⟨b, off, none⟩ ∧ b < w.heap.size ∧ w.cell? ⟨b, off + k, none⟩ = some (vs.getD k undef) := by
  obtain ⟨b, off, rfl, hc⟩ := h.2.2.2 (by rintro rfl; simp at hk)
  exact ⟨b, off, rfl, block_lt_of_cell (hc k hk), hc k hk⟩
theorem PtV.below {w w' : World} {p : Option Addr} {cap : Nat} {l : List Value} (h : PtV w p cap l) (hb : Below w.heap.size w w') : PtV w' p cap l := by
  refine ⟨h.1, h.2.1, h.2.2.1, fun hl => ?_⟩
  obtain ⟨b, off, rfl, hc⟩ := h.2.2.2 hl
  exact ⟨b, off, rfl, fun i hi => (hb.cell (block_lt_of_cell (hc i hi))).trans (hc i hi)⟩
/-- The value is a slice of slices that read as these lists of bytes. -/
def RdBs (w : World) (v : Value) (ls : List (List UInt8)) : Prop :=
  ∃ p cap vs, v = .slice p vs.length cap ∧ PtV w p cap vs ∧ vs.length = ls.length ∧ ∀ i, i < vs.length → RdB w (vs.getD i undef) (ls.getD i [])
theorem RdBs.below {w w' : World} {v : Value} {ls : List (List UInt8)} (h : RdBs w v ls) (hb : Below w.heap.size w w') : RdBs w' v ls := by
  obtain ⟨p, cap, vs, rfl, h1, h2, h3⟩ := h
  exact ⟨p, cap, vs, rfl, h1.below hb, h2, fun i hi => (h3 i hi).below hb⟩

theorem heap_alloc_get (w : World) (o : Obj) (k : Nat) : (w.alloc o).heap[k]? = if k = w.heap.size then some o else w.heap[k]? := by
  show (w.heap.push o)[k]? = _
  rw [Array.getElem?_push]

theorem heap_alloc_size (w : World) (o : Obj) : (w.alloc o).heap.size = w.heap.size + 1 := Array.size_push ..

/-- A row of bytes from the head of a block. -/
theorem RdB_of_block {w : World} {b cap n : Nat} {e : TypeId} {fr : Nat × Nat} {cs : Array Value} {l : List UInt8} (hb : w.heap[b]? = some (.cells cs e fr)) (hn : n = l.length) (h1 : n ≤ cap) (h2 : cap ≤ maxLen)
    (hc : ∀ i, i < l.length → cs[i]? = some (.int .u8 ((l.getD i 0).toNat : Int))) : RdB w (.slice (some ⟨b, 0, none⟩) n cap) l := by
  subst hn
  exact ⟨_, _, rfl, ⟨(fun h => by cases h), h1, h2, fun _ => ⟨b, 0, rfl, fun i hi => by rw [cell_of_row _ _ _ _ _ _ hb, Nat.zero_add]; exact hc i hi⟩⟩⟩
theorem RdBs_of_block {w : World} {b cap n : Nat} {e : TypeId} {fr : Nat × Nat} {cs : Array Value} {vs : List Value} {ls : List (List UInt8)} (hb : w.heap[b]? = some (.cells cs e fr)) (hn : n = vs.length) (h1 : n ≤ cap) (h2 : cap ≤ maxLen)
    (hc : ∀ i, i < vs.length → cs[i]? = some (vs.getD i undef)) (hl : vs.length = ls.length) (hr : ∀ i, i < vs.length → RdB w (vs.getD i undef) (ls.getD i [])) : RdBs w (.slice (some ⟨b, 0, none⟩) n cap) ls := by
  subst hn
  exact ⟨_, _, vs, rfl, ⟨(fun h => by cases h), h1, h2, fun _ => ⟨b, 0, rfl, fun i hi => by rw [cell_of_row _ _ _ _ _ _ hb, Nat.zero_add]; exact hc i hi⟩⟩, hl, hr⟩

theorem getD_of_lt {α : Type} (l : List α) (i : Nat) (d : α) (h : i < l.length) : l.getD i d = l[i] := by simp [List.getD, h]

/-- WHAT THE WALK IS TOLD OF A SLICE OF INTEGERS THAT CAME IN. -/
def IsRow (k : IntKind) (w : World) (a : Option Addr) (len cap : Nat) (zs : List Int) : Prop :=
  (a = none ∧ len = 0 ∧ cap = 0 ∧ zs = []) ∨
  ∃ x, a = some x ∧ len ≤ cap ∧ cap ≤ maxLen ∧ zs.length = cap ∧ (∀ i, i < zs.length → w.cell? (x.add i) = some (.int k (zs.getD i 0))) ∧ ∀ n ∈ zs, (Lit.int k n).wf = true
theorem RdB_of_row {w : World} {a : Option Addr} {len cap : Nat} {zs : List Int} (h : IsRow .u8 w a len cap zs) : ∃ l, l.length = len ∧ RdB w (.slice a len cap) l := by
  rcases h with ⟨rfl, rfl, rfl, rfl⟩ | ⟨x, rfl, h1, h2, h3, h4, h5⟩
  · exact ⟨[], rfl, _, _, rfl, ⟨fun _ => rfl, Nat.le_refl _, by unfold maxLen; omega, fun h => absurd rfl h⟩⟩
  · have hlen : ((zs.take len).map fun z => UInt8.ofNat z.toNat).length = len := by simp; omega
    refine ⟨(zs.take len).map fun z => UInt8.ofNat z.toNat, hlen, some x, cap, by rw [hlen], ⟨(fun h => by cases h), by omega, h2, fun hl => ?_⟩⟩
    have hpos : 0 < len := by rcases Nat.eq_zero_or_pos len with e | e; · subst e; simp at hl
                              · exact e
    have hc0 := h4 0 (by omega)
    obtain ⟨b, off, sp⟩ := x
    have hsp : sp = none := by
      unfold Addr.add at hc0
      simp only [if_true, World.cell?] at hc0
      split at hc0
      · split at hc0
        · cases hc0
        · rename_i hs; simpa using hs
      · cases hc0
    subst hsp
    refine ⟨b, off, rfl, fun i hi => ?_⟩
    rw [hlen] at hi
    have hc := h4 i (by omega)
    have hadd : (⟨b, off, none⟩ : Addr).add i = ⟨b, off + i, none⟩ := by unfold Addr.add; split <;> simp_all
    rw [hadd] at hc
    rw [hc]
    have hwf := h5 (zs.getD i 0) (by rw [getD_of_lt _ _ _ (show i < zs.length by omega)]; exact List.getElem_mem _)
    have hbd : 0 ≤ zs.getD i 0 ∧ zs.getD i 0 ≤ 255 := by simpa [Lit.wf, IntKind.min, IntKind.max, IntKind.signed, IntKind.bits] using hwf
    have e : ((zs.take len).map fun z => UInt8.ofNat z.toNat).getD i 0 = UInt8.ofNat (zs.getD i 0).toNat := by
      rw [getD_of_lt _ _ _ (by rw [hlen]; exact hi), List.getElem_map, List.getElem_take, getD_of_lt _ _ _ (show i < zs.length by omega)]
    rw [e]
    simp only [UInt8.toNat_ofNat']
    congr 2
    omega

theorem Below_setRow {B : Nat} {a w : World} (h : Below B a w) {g : Nat} (hg : B ≤ g) (cs : Array Value) : Below B a (w.setRow g cs) :=
  h.trans ⟨rfl, rfl, rfl, by simp, fun k hk => setRow_other w g k cs (by omega)⟩

theorem xor_u32 (a b : Nat) (ha : a < 2 ^ 32) (hb : b < 2 ^ 32) : bits .xor .u32 (a : Int) (b : Int) = ((a ^^^ b : Nat) : Int) := by
  have e : bits .xor .u32 (a : Int) (b : Int) = IntKind.u32.wrap (((BitVec.ofInt 32 a ^^^ BitVec.ofInt 32 b : BitVec 32).toNat : Nat) : Int) := rfl
  rw [e, BitVec.toNat_xor, BitVec.ofInt_natCast, BitVec.ofInt_natCast, BitVec.toNat_ofNat, BitVec.toNat_ofNat, Nat.mod_eq_of_lt ha, Nat.mod_eq_of_lt hb]
  have := Nat.xor_lt_two_pow ha hb
  rw [IntKind.wrap_u32]; omega
theorem xor_u8 (a b : Nat) (ha : a < 2 ^ 8) (hb : b < 2 ^ 8) : bits .xor .u8 (a : Int) (b : Int) = ((a ^^^ b : Nat) : Int) := by
  have e : bits .xor .u8 (a : Int) (b : Int) = IntKind.u8.wrap (((BitVec.ofInt 8 a ^^^ BitVec.ofInt 8 b : BitVec 8).toNat : Nat) : Int) := rfl
  rw [e, BitVec.toNat_xor, BitVec.ofInt_natCast, BitVec.ofInt_natCast, BitVec.toNat_ofNat, BitVec.toNat_ofNat, Nat.mod_eq_of_lt ha, Nat.mod_eq_of_lt hb]
  have := Nat.xor_lt_two_pow ha hb
  rw [IntKind.wrap_u8]; omega
theorem and1_u32 (a : Nat) (ha : a < 2 ^ 32) : bits .and .u32 (a : Int) 1 = ((a % 2 : Nat) : Int) := by
  have e : bits .and .u32 (a : Int) 1 = IntKind.u32.wrap (((BitVec.ofInt 32 a &&& BitVec.ofInt 32 ((1 : Nat) : Int) : BitVec 32).toNat : Nat) : Int) := rfl
  rw [e, BitVec.toNat_and, BitVec.ofInt_natCast, BitVec.ofInt_natCast, BitVec.toNat_ofNat, BitVec.toNat_ofNat, Nat.mod_eq_of_lt ha, Nat.mod_eq_of_lt (by decide), Nat.and_one_is_mod]
  rw [IntKind.wrap_u32]; omega
end Go.Proofs.Ytjkldodlnpkdaaa
