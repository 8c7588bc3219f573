/- Two tracks side by side, an operation's cells, and rows beside them: what bears what. -/
import Derived.Test.YteellfgiejnigaaT30
import Derived.Test.YteellfgiejnigaaT16
import Derived.Test.YteellfgiejnigaaT19
import Derived.Test.YteellfgiejnigaaReg4
namespace Go.Proofs.Yteellfgiejnigaa
open Go.ChangeShapes Go.WideShapes Go.ChangeAt Go.RowKit
set_option linter.unusedVariables false

theorem RdB.uniq {w : World} {v : Value} {l l' : List UInt8} (h : RdB w v l) (h' : RdB w v l') : l = l' := by
  obtain ⟨p, c, rfl, hp⟩ := h
  obtain ⟨p', c', e, hp'⟩ := h'
  injection e with e1 e2 e3
  subst e1 e3
  refine List.ext_getElem e2 fun i h1 h2 => ?_
  obtain ⟨b, off, rfl, hc⟩ := hp.2.2.2 (by rintro rfl; simp at h1)
  obtain ⟨b', off', e, hc'⟩ := hp'.2.2.2 (by rintro rfl; simp at h2)
  cases e
  have q := (hc i h1).symm.trans (hc' i h2)
  rw [getD_of_lt _ _ _ h1, getD_of_lt _ _ _ h2] at q
  simp only [Option.some.injEq, Value.int.injEq, true_and] at q
  exact UInt8.toNat_inj.1 (by omega)
theorem EsR.uniq {w : World} {S S' : Foot} {v : Value} {es es' : List Ent} (h : EsR w S v es) (h' : EsR w S' v es') : es = es' := by
  have hl : es.length = es'.length := by
    obtain ⟨p, c, xs, e, _⟩ := h
    obtain ⟨p', c', xs', e', _⟩ := h'
    rw [e] at e'
    injection e'
  refine List.ext_getElem hl fun i h1 h2 => ?_
  obtain ⟨b, off, c, d, hv, _, _, q1, q2, q3, _⟩ := h.elemF i h1
  obtain ⟨b', off', c', d', hv', _, _, r1, r2, r3, _⟩ := h'.elemF i h2
  rw [hv] at hv'
  injection hv' with e1 _ _
  simp only [Option.some.injEq, Addr.mk.injEq] at e1
  obtain ⟨rfl, rfl, _⟩ := e1
  have t1 := q1.symm.trans r1
  have t2 := q2.symm.trans r2
  simp only [Option.some.injEq, Value.int.injEq, true_and] at t1
  cases t2
  refine Prod.ext (by omega) ?_
  exact q3.rd.uniq r3.rd
theorem RkAt.uniq {w : World} {R R' : Foot} {r B T B' T' : Nat} {u u' : Value} {es es' : List Ent} (h : RkAt w R r B T u es) (h' : RkAt w R' r B' T' u' es') : B = B' ∧ T = T' ∧ es = es' := by
  have e := h.cells.symm.trans h'.cells
  simp only [Option.some.injEq, Obj.cells.injEq, and_true] at e
  have e0 : (#[Value.int .u64 (B : Int), .int .u64 (T : Int), u] : Array Value).toList = [.int .u64 (B' : Int), .int .u64 (T' : Int), u'] := by rw [e]
  simp only [List.cons.injEq, Value.int.injEq, true_and, and_true] at e0
  obtain ⟨a, b, rfl⟩ := e0
  exact ⟨by omega, by omega, h.own.rd.uniq h'.own.rd⟩

/-- The program's track, the document's, an operation's cells: apart from one another, and new. -/
structure Mid (w0 : World) (N : Nat) (oc : Array Value) (W : World) (S R : Foot) (g r B T : Nat) (v : Value) (es : List Ent) (B' T' : Nat) (u : Value) (es' : List Ent) : Prop where
  t : TkAt W S g B T v es
  k : RkAt W R r B' T' u es'
  o : W.heap[N]? = some (.cells oc 39)
  below : Below w0.heap.size w0 W
  dS : ∀ b, S b → w0.heap.size ≤ b ∧ b < W.heap.size ∧ b ≠ N
  dR : ∀ b, R b → w0.heap.size ≤ b ∧ b < W.heap.size ∧ b ≠ N
  dSR : ∀ b, S b → R b → False
  lo : w0.heap.size ≤ N
/-- A row of entries of the call's own, apart from them. -/
structure Side (w0 : World) (N : Nat) (W : World) (S R X : Foot) (iv : Value) (ins : List Ent) : Prop where
  i : EsG W X 53 iv ins
  dX : ∀ b, X b → w0.heap.size ≤ b ∧ b < W.heap.size ∧ b ≠ N
  dS : ∀ b, X b → S b → False
  dR : ∀ b, X b → R b → False
section
variable {w0 W W' : World} {N : Nat} {oc : Array Value} {S R X : Foot} {g r B T : Nat} {v : Value} {es : List Ent} {B' T' : Nat} {u : Value} {es' : List Ent} {iv : Value} {ins : List Ent}
theorem Mid.lt (M : Mid w0 N oc W S R g r B T v es B' T' u es') : N < W.heap.size := (Array.getElem?_eq_some_iff.1 M.o).1
theorem Mid.keep (M : Mid w0 N oc W S R g r B T v es B' T' u es') (hB : Below W.heap.size W W') : Mid w0 N oc W' S R g r B T v es B' T' u es' :=
  ⟨M.t.keeps hB.block, M.k.keeps hB.block, by rw [hB.block N M.lt]; exact M.o, M.below.trans (hB.mono M.below.size), fun b h => ⟨(M.dS b h).1, Nat.lt_of_lt_of_le (M.dS b h).2.1 hB.size, (M.dS b h).2.2⟩, fun b h => ⟨(M.dR b h).1, Nat.lt_of_lt_of_le (M.dR b h).2.1 hB.size, (M.dR b h).2.2⟩, M.dSR, M.lo⟩
theorem Side.keep (D : Side w0 N W S R X iv ins) (hB : Below W.heap.size W W') : Side w0 N W' S R X iv ins :=
  ⟨D.i.keeps hB.block, fun b h => ⟨(D.dX b h).1, Nat.lt_of_lt_of_le (D.dX b h).2.1 hB.size, (D.dX b h).2.2⟩, D.dS, D.dR⟩
theorem Mid.stepT {B1 T1 : Nat} {v1 : Value} {es1 : List Ent} (M : Mid w0 N oc W S R g r B T v es B' T' u es') (ht : TkAt W' (fun b => S b ∨ W.heap.size ≤ b) g B1 T1 v1 es1) (hto : Touch S W W') :
    Mid w0 N oc W' (fun b => (S b ∨ W.heap.size ≤ b) ∧ b < W'.heap.size) R g r B1 T1 v1 es1 B' T' u es' := by
  refine ⟨ht.mono fun b hb h => ⟨h, hb⟩, M.k.frame fun b hb => hto.block b (M.dR b hb).2.1 (fun e => M.dSR b e hb), by rw [hto.block N M.lt (fun e => (M.dS N e).2.2 rfl)]; exact M.o,
    M.below.trans (hto.below M.below.size fun b h => (M.dS b h).1), fun b h => ?_, fun b h => ⟨(M.dR b h).1, Nat.lt_of_lt_of_le (M.dR b h).2.1 hto.size, (M.dR b h).2.2⟩, fun b h h2 => ?_, M.lo⟩
  · rcases h.1 with h1 | h1
    · exact ⟨(M.dS b h1).1, h.2, (M.dS b h1).2.2⟩
    · have := M.below.size; have := M.lt; exact ⟨by omega, h.2, by omega⟩
  · rcases h.1 with h1 | h1
    · exact M.dSR b h1 h2
    · have := (M.dR b h2).2.1; omega
theorem Mid.stepR {B1 T1 : Nat} {u1 : Value} {es1 : List Ent} (M : Mid w0 N oc W S R g r B T v es B' T' u es') (ht : RkAt W' (fun b => R b ∨ W.heap.size ≤ b) r B1 T1 u1 es1) (hto : Touch R W W') :
    Mid w0 N oc W' S (fun b => (R b ∨ W.heap.size ≤ b) ∧ b < W'.heap.size) g r B T v es B1 T1 u1 es1 := by
  refine ⟨M.t.frame fun b hb => hto.block b (M.dS b hb).2.1 (fun e => M.dSR b hb e), ht.mono fun b hb h => ⟨h, hb⟩, by rw [hto.block N M.lt (fun e => (M.dR N e).2.2 rfl)]; exact M.o,
    M.below.trans (hto.below M.below.size fun b h => (M.dR b h).1), fun b h => ⟨(M.dS b h).1, Nat.lt_of_lt_of_le (M.dS b h).2.1 hto.size, (M.dS b h).2.2⟩, fun b h => ?_, fun b h2 h => ?_, M.lo⟩
  · rcases h.1 with h1 | h1
    · exact ⟨(M.dR b h1).1, h.2, (M.dR b h1).2.2⟩
    · have := M.below.size; have := M.lt; exact ⟨by omega, h.2, by omega⟩
  · rcases h.1 with h1 | h1
    · exact M.dSR b h2 h1
    · have := (M.dS b h2).2.1; omega
theorem Side.stepT (D : Side w0 N W S R X iv ins) (hto : Touch S W W') : Side w0 N W' (fun b => (S b ∨ W.heap.size ≤ b) ∧ b < W'.heap.size) R X iv ins :=
  ⟨D.i.frame fun b hb => hto.block b (D.dX b hb).2.1 (fun e => D.dS b hb e), fun b h => ⟨(D.dX b h).1, Nat.lt_of_lt_of_le (D.dX b h).2.1 hto.size, (D.dX b h).2.2⟩,
    fun b h h2 => h2.1.elim (fun h1 => D.dS b h h1) (fun h1 => by have := (D.dX b h).2.1; omega), D.dR⟩
theorem Side.stepR (D : Side w0 N W S R X iv ins) (hto : Touch R W W') : Side w0 N W' S (fun b => (R b ∨ W.heap.size ≤ b) ∧ b < W'.heap.size) X iv ins :=
  ⟨D.i.frame fun b hb => hto.block b (D.dX b hb).2.1 (fun e => D.dR b hb e), fun b h => ⟨(D.dX b h).1, Nat.lt_of_lt_of_le (D.dX b h).2.1 hto.size, (D.dX b h).2.2⟩,
    D.dS, fun b h h2 => h2.1.elim (fun h1 => D.dR b h h1) (fun h1 => by have := (D.dX b h).2.1; omega)⟩
/-- A row that is spoiled: the rest stays. -/
theorem Mid.stepX (M : Mid w0 N oc W S R g r B T v es B' T' u es') (D : Side w0 N W S R X iv ins) (hto : Touch X W W') : Mid w0 N oc W' S R g r B T v es B' T' u es' :=
  ⟨M.t.frame fun b hb => hto.block b (M.dS b hb).2.1 (fun e => D.dS b e hb), M.k.frame fun b hb => hto.block b (M.dR b hb).2.1 (fun e => D.dR b e hb), by rw [hto.block N M.lt (fun e => (D.dX N e).2.2 rfl)]; exact M.o,
    M.below.trans (hto.below M.below.size fun b h => (D.dX b h).1), fun b h => ⟨(M.dS b h).1, Nat.lt_of_lt_of_le (M.dS b h).2.1 hto.size, (M.dS b h).2.2⟩, fun b h => ⟨(M.dR b h).1, Nat.lt_of_lt_of_le (M.dR b h).2.1 hto.size, (M.dR b h).2.2⟩, M.dSR, M.lo⟩
theorem Side.stepX {Y : Foot} (D : Side w0 N W S R X iv ins) (hto : Touch Y W W') (hd : ∀ b, X b → Y b → False) : Side w0 N W' S R X iv ins :=
  ⟨D.i.frame fun b hb => hto.block b (D.dX b hb).2.1 (fun e => hd b hb e), fun b h => ⟨(D.dX b h).1, Nat.lt_of_lt_of_le (D.dX b h).2.1 hto.size, (D.dX b h).2.2⟩, D.dS, D.dR⟩
theorem Side.new (M : Mid w0 N oc W S R g r B T v es B' T' u es') (hB : Below W.heap.size W W') (h : EsG W' (fun b => W.heap.size ≤ b) 53 iv ins) : Side w0 N W' S R (fun b => W.heap.size ≤ b ∧ b < W'.heap.size) iv ins :=
  ⟨h.mono fun b hb h => ⟨h, hb⟩, fun b h => ⟨Nat.le_trans M.below.size h.1, h.2, by have := M.lt; have := h.1; omega⟩, fun b h h2 => by have := (M.dS b h2).2.1; have := h.1; omega, fun b h h2 => by have := (M.dR b h2).2.1; have := h.1; omega⟩
theorem Mid.oat (M : Mid w0 N oc W S R g r B T v es B' T' u es') (j : Nat) : W.cell? ⟨N, j, none⟩ = oc[j]? := cell_of_row _ _ _ _ _ _ M.o
theorem Mid.inp (M : Mid w0 N oc W S R g r B T v es B' T' u es') {lu : Value} {L : List Ent} (h : EsR w0 (fun b => b < w0.heap.size) lu L) : EsR W (fun b => b < w0.heap.size) lu L := h.frame fun b hb => M.below.block b hb
end

/-- The two tracks between two calls. -/
structure Two (w0 W : World) (g r B T : Nat) (es : List Ent) : Prop where
  two : ∃ S R v u, TkAt W S g B T v es ∧ RkAt W R r B T u es ∧ (∀ b, S b → w0.heap.size ≤ b ∧ b < W.heap.size) ∧ (∀ b, R b → w0.heap.size ≤ b ∧ b < W.heap.size) ∧ (∀ b, S b → R b → False)
  below : Below w0.heap.size w0 W
theorem Mid.two {w0 W : World} {N : Nat} {oc : Array Value} {S R : Foot} {g r B T : Nat} {v u : Value} {es : List Ent} (M : Mid w0 N oc W S R g r B T v es B T u es) : Two w0 W g r B T es :=
  ⟨⟨S, R, v, u, M.t, M.k, fun b h => ⟨(M.dS b h).1, (M.dS b h).2.1⟩, fun b h => ⟨(M.dR b h).1, (M.dR b h).2.1⟩, M.dSR⟩, M.below⟩
theorem hz39 : ((Try.prog.info? 39).bind (·.zero)).map Value.cells = some #[.int .i64 0, .int .i64 0, .int .u64 0, .int .u64 0, .slice none 0 0] := by kernel_rfl
theorem stored39 (W1 : World) (a b c d e : Value) : ∃ W2, Hid ((W1.alloc (.cells #[.int .i64 0, .int .i64 0, .int .u64 0, .int .u64 0, .slice none 0 0] 39)).setRow W1.heap.size #[a, b, c, d, e] = W2) ∧ W2.heap[W1.heap.size]? = some (.cells #[a, b, c, d, e] 39) ∧ Below W1.heap.size W1 W2 := by
  refine ⟨_, Lib.hid rfl, setRow_heap _ _ _ _ _ _ (heap_alloc_new W1 _), ⟨rfl, rfl, rfl, by simp [World.setRow], fun k hk => by rw [setRow_other _ _ _ _ (by omega), Below.heap_alloc W1 _ k hk]⟩⟩
theorem Two.mid {w0 W W2 : World} {oc : Array Value} {g r B T : Nat} {es : List Ent} (h : Two w0 W g r B T es) (ho : W2.heap[W.heap.size]? = some (.cells oc 39)) (hB : Below W.heap.size W W2) :
    ∃ S R v u, Mid w0 W.heap.size oc W2 S R g r B T v es B T u es := by
  obtain ⟨⟨S, R, v, u, ht, hk, dS, dR, dSR⟩, hb⟩ := h
  exact ⟨S, R, v, u, ht.keeps hB.block, hk.keeps hB.block, ho, hb.trans (hB.mono hb.size), fun b h => ⟨(dS b h).1, Nat.lt_of_lt_of_le (dS b h).2 hB.size, by have := (dS b h).2; omega⟩, fun b h => ⟨(dR b h).1, Nat.lt_of_lt_of_le (dR b h).2 hB.size, by have := (dR b h).2; omega⟩, dSR, hb.size⟩

/-- A call: its kind, how many at most, an index, a term, entries. -/
abbrev Opd := Int × Int × Nat × Nat × List Ent
/-- The value is a row of these calls. -/
def OpsV (w : World) (v : Value) (ls : List Opd) : Prop := ∃ p c, v = .slice p ls.length c ∧
  (ls ≠ [] → ∃ b off, p = some ⟨b, off, none⟩ ∧ b < w.heap.size ∧ ∀ i (hi : i < ls.length), ∃ u, w.rangeAt b (off + i * 5) [.int .i64 ls[i].1, .int .i64 ls[i].2.1, .int .u64 (ls[i].2.2.1 : Int), .int .u64 (ls[i].2.2.2.1 : Int), u] ∧ EsR w (fun b => b < w.heap.size) u ls[i].2.2.2.2) ∧
  ∀ o ∈ ls, (-9223372036854775808 ≤ o.1 ∧ o.1 ≤ 9223372036854775807) ∧ (-9223372036854775808 ≤ o.2.1 ∧ o.2.1 ≤ 9223372036854775807) ∧ o.2.2.1 < 2 ^ 64 ∧ o.2.2.2.1 < 2 ^ 64 ∧ ∀ e ∈ o.2.2.2.2, e.2.length ≤ 140737488351232
theorem OpsV.opsL {w : World} {v : Value} {ls : List Opd} (h : OpsV w v ls) : OpsL w v (ls.map (·.2.2.2.2)) := by
  obtain ⟨p, c, rfl, h, _⟩ := h
  refine ⟨p, c, by rw [List.length_map], fun hne => ?_⟩
  obtain ⟨b, off, rfl, hb, hc⟩ := h (by rintro rfl; exact hne rfl)
  refine ⟨b, off, rfl, fun i hi => ?_⟩
  rw [List.length_map] at hi
  obtain ⟨u, h1, h2⟩ := hc i hi
  exact ⟨u, _, h1 4 _ rfl, by rw [List.getElem_map]; exact h2⟩
theorem wf_i64 {n : Int} (h : (Lit.int .i64 n).wf = true) : -9223372036854775808 ≤ n ∧ n ≤ 9223372036854775807 := by
  have : -9223372036854775808 ≤ n ∧ n ≤ 9223372036854775807 := by simpa [Lit.wf, IntKind.min, IntKind.max, IntKind.signed, IntKind.bits] using h
  exact this
section
variable {H : Type} {enc : TypeId × Value → H} {w : World} {base : Nat}
set_option maxRecDepth 100000 in
theorem ops_of_trod {d : DataW H} {p : List MemPlace} {a : Option Addr} {len cap : Nat}
    (hz : ∀ b off, MemPlace.cell b off ∈ p → w.frozen? ⟨b, off, none⟩ = false) (hs : Fits Try.prog 40 d) (h : DataW.Trod enc Try.prog w base (fun _ => true) true 40 (.slice a len cap) d p) : ∃ ls, OpsV w (.slice a len cap) ls := by
  obtain ⟨h1, h2, h3, h4⟩ := open_structs_fit (C := 5) Try.underlying40 Try.underlying39 (by kernel_rfl) ⟨_, Array.mem_of_getElem? (i := 0) rfl, rfl, by kernel_rfl⟩ (by decide) hs h
  rcases Nat.eq_zero_or_pos len with hz0 | hpos
  · subst hz0
    exact ⟨[], a, cap, rfl, fun h => absurd rfl h, fun o ho => by cases ho⟩
  · obtain ⟨b, off, rfl, hb, hc⟩ := h4 hpos
    obtain ⟨ls, hl, hp⟩ := list_of_fn len (fun i (x : Opd) => (∃ u, w.rangeAt b (off + i * 5) [.int .i64 x.1, .int .i64 x.2.1, .int .u64 (x.2.2.1 : Int), .int .u64 (x.2.2.2.1 : Int), u] ∧ EsR w (fun b => b < w.heap.size) u x.2.2.2.2) ∧
        (-9223372036854775808 ≤ x.1 ∧ x.1 ≤ 9223372036854775807) ∧ (-9223372036854775808 ≤ x.2.1 ∧ x.2.1 ≤ 9223372036854775807) ∧ x.2.2.1 < 2 ^ 64 ∧ x.2.2.2.1 < 2 ^ 64 ∧ ∀ e ∈ x.2.2.2.2, e.2.length ≤ 140737488351232) (fun i hi => by
      obtain ⟨u0, y0, n0, c0, t0, _⟩ := hc i hi _ (Array.mem_of_getElem? (i := 0) rfl) (by kernel_rfl) (by decide)
      obtain ⟨u1, y1, n1, c1, t1, _⟩ := hc i hi _ (Array.mem_of_getElem? (i := 1) rfl) (by kernel_rfl) (by decide)
      obtain ⟨u2, y2, n2, c2, t2, _⟩ := hc i hi _ (Array.mem_of_getElem? (i := 2) rfl) (by kernel_rfl) (by decide)
      obtain ⟨u3, y3, n3, c3, t3, _⟩ := hc i hi _ (Array.mem_of_getElem? (i := 3) rfl) (by kernel_rfl) (by decide)
      obtain ⟨u4, y4, n4, c4, t4, f4, g4⟩ := hc i hi _ (Array.mem_of_getElem? (i := 4) rfl) (by kernel_rfl) (by decide)
      obtain ⟨z0, e0, _, w0⟩ := DataW.trod_int Try.underlying3 t0
      obtain ⟨z1, e1, _, w1⟩ := DataW.trod_int Try.underlying3 t1
      obtain ⟨z2, e2, _, w2⟩ := DataW.trod_int Try.underlying22 t2
      obtain ⟨z3, e3, _, w3⟩ := DataW.trod_int Try.underlying22 t3
      simp only [List.cons.injEq, and_true] at e0 e1 e2 e3
      subst e0 e1 e2 e3
      obtain ⟨m2, rfl⟩ : ∃ m : Nat, z2 = (m : Int) := ⟨z2.toNat, by have := (wf_u64 w2).1; omega⟩
      obtain ⟨m3, rfl⟩ : ∃ m : Nat, z3 = (m : Int) := ⟨z3.toNat, by have := (wf_u64 w3).1; omega⟩
      obtain ⟨a2, l2, q2, e4⟩ := Go.Joins.slice_form Try.underlying28 t4
      simp only [List.cons.injEq, and_true] at e4
      subst e4
      obtain ⟨L, hL, hLe⟩ := ents_of_trod (fun b off hm => hz b off (g4 _ hm)) f4 (show DataW.Trod enc Try.prog w base (fun _ => true) true 28 (.slice a2 l2 q2) y4.1 y4.2 from ⟨n4, t4⟩)
      refine ⟨(z0, z1, m2, m3, L), ⟨.slice a2 l2 q2, fun j x hx => ?_, hL⟩, wf_i64 w0, wf_i64 w1, by have := (wf_u64 w2).2; show m2 < 2 ^ 64; omega, by have := (wf_u64 w3).2; show m3 < 2 ^ 64; omega, hLe⟩
      match j, hx with
      | 0, hx => cases hx; exact c0
      | 1, hx => cases hx; exact c1
      | 2, hx => cases hx; exact c2
      | 3, hx => cases hx; exact c3
      | 4, hx => cases hx; exact c4)
    subst hl
    refine ⟨ls, some ⟨b, off, none⟩, cap, rfl, fun _ => ⟨b, off, rfl, hb, fun i hi => ?_⟩, fun o ho => ?_⟩
    · have := (hp i hi).1
      rw [getD_of_lt _ _ _ hi] at this
      exact this
    · obtain ⟨i, hi, rfl⟩ := List.getElem_of_mem ho
      have := (hp i hi).2
      rw [getD_of_lt _ _ _ hi] at this
      exact this
end
end Go.Proofs.Yteellfgiejnigaa
