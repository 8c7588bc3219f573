/- L3: T8, T10, T13, T14, T15, T16, T17, T18, T19, T20. -/
import Derived.Test.YteellfgiejnigaaQbL1
import Derived.Test.YteellfgiejnigaaQbL2
import Derived.Test.YteellfgiejnigaaQbT7
import Derived.Lib.SmallJoins
import Derived.OpenShut
namespace Go.Proofs.Yteellfgiejnigaa
open Go.ChangeShapes Go.WideShapes Go.ChangeAt Go.RowKit
set_option linter.unusedVariables false
section
variable {ops : Array Oper} {rest : List Oper} {o : Oper} {a : Act} {w : World} {Q : Exit → Act → World → Prop}
end
end Go.Proofs.Yteellfgiejnigaa
/- A pair of numbers that came in, by value. -/
namespace Go.Proofs.Yteellfgiejnigaa
open Go.ChangeShapes Go.WideShapes Go.ChangeAt Go.RowKit Go.Deep
set_option linter.unusedVariables false
section
variable {H : Type} {enc : TypeId × Value → H} {w : World} {base : Nat} {spare : Nat → Bool} {held : Bool}
theorem wf_u64 {n : Int} (h : (Lit.int .u64 n).wf = true) : 0 ≤ n ∧ n < 18446744073709551616 := by
  have : 0 ≤ n ∧ n ≤ 18446744073709551615 := by simpa [Lit.wf, IntKind.min, IntKind.max, IntKind.signed, IntKind.bits] using h
  omega
theorem cell_of_take {cs : List Value} {off : Nat} {v : Value} (h : (cs.drop off).take 1 = [v]) : cs[off]? = some v := by
  have := congrArg (fun l => l[0]?) h
  simpa using this
end
end Go.Proofs.Yteellfgiejnigaa
/- The walk of Slice. -/
namespace Go.Proofs.Yteellfgiejnigaa
open Go.ChangeShapes Go.WideShapes Go.ChangeAt Go.RowKit
set_option linter.unusedVariables false
end Go.Proofs.Yteellfgiejnigaa
/- Walks of may and Cut. -/
namespace Go.Proofs.Yteellfgiejnigaa
open Go.ChangeShapes Go.WideShapes Go.ChangeAt Go.RowKit
set_option linter.unusedVariables false
/-- The row's beginning, with no room behind it. -/
theorem EsG.cut {w : World} {S : Foot} {e : TypeId} {p : Option Addr} {m c : Nat} {es : List Ent} (h : EsG w S e (.slice p m c) es) {n : Nat} (hn : n ≤ es.length) : EsG w S e (.slice p n n) (es.take n) := by
  rcases h with ⟨h, rfl⟩ | ⟨g, cap, cur, h, hg, hh, h1, h2, h3, h4⟩
  · cases h
    have : n = 0 := by simpa using hn
    subst this
    exact .inl ⟨rfl, rfl⟩
  · cases h
    have hl : (es.take n).length = n := by rw [List.length_take]; omega
    refine .inr ⟨g, n, cur, by rw [hl], hg, hh, by rw [hl]; exact Nat.le_refl _, by omega, by omega, ?_⟩
    have := h4.take n
    rw [List.take_take, Nat.min_eq_left (by omega)] at this
    rw [hl]; exact this
end Go.Proofs.Yteellfgiejnigaa
/- The walk of the document's Same: are two rows the same entries? -/
namespace Go.Proofs.Yteellfgiejnigaa
open Go.ChangeShapes Go.WideShapes Go.ChangeAt Go.RowKit
set_option linter.unusedVariables false
theorem EsR.both {w : World} {S : Foot} {v : Value} {es : List Ent} (h : EsR w S v es) (k : Nat) (hk : k < es.length) : ∃ b off c d, v = .slice (some ⟨b, off, none⟩) es.length c ∧
    w.cell? ⟨b, off + k * 2, none⟩ = some (.int .u64 ((es[k].1 : Nat) : Int)) ∧ w.cell? ⟨b, off + k * 2 + 1, none⟩ = some d ∧ RdB w d es[k].2 := by
  obtain ⟨b, off, n, c, d, h1, h2, h3, h4, _⟩ := h.elem k hk
  subst h2
  exact ⟨b, off, c, d, h1, by simpa using h3 0 _ rfl, by simpa using h3 1 _ rfl, h4.rd⟩
theorem bytes_ne {l m : List UInt8} (h : l ≠ m) : ((⟨l.toArray⟩ : ByteArray) == (⟨m.toArray⟩ : ByteArray)) = false := by
  rw [beq_toListBytes, ByteArray.toList_eq, ByteArray.toList_eq]
  simpa using h
end Go.Proofs.Yteellfgiejnigaa
/- Entries that came in. -/
namespace Go.Proofs.Yteellfgiejnigaa
open Go.ChangeShapes Go.WideShapes Go.ChangeAt Go.RowKit Go.Deep
set_option linter.unusedVariables false
def flat3 : List (Nat × Value × List UInt8) → List Value
  | [] => []
  | x :: l => .int .u64 (x.1 : Int) :: x.2.1 :: flat3 l
theorem flat3_at : ∀ (ls : List (Nat × Value × List UInt8)) (j : Nat) (u : Value), (flat3 ls)[j]? = some u → ∃ k, ∃ hk : k < ls.length, (j = k * 2 ∧ u = .int .u64 (ls[k].1 : Int)) ∨ (j = k * 2 + 1 ∧ u = ls[k].2.1)
  | [], j, u, h => by simp [flat3] at h
  | x :: l, 0, u, h => by
    simp only [flat3, List.getElem?_cons_zero, Option.some.injEq] at h
    exact ⟨0, by simp, .inl ⟨rfl, h.symm⟩⟩
  | x :: l, 1, u, h => by
    simp only [flat3, List.getElem?_cons_succ, List.getElem?_cons_zero, Option.some.injEq] at h
    exact ⟨0, by simp, .inr ⟨rfl, h.symm⟩⟩
  | x :: l, j + 2, u, h => by
    simp only [flat3, List.getElem?_cons_succ] at h
    obtain ⟨k, hk, hku⟩ := flat3_at l j u h
    refine ⟨k + 1, by simp; omega, ?_⟩
    rcases hku with ⟨hj, hu⟩ | ⟨hj, hu⟩
    · exact .inl ⟨by omega, hu⟩
    · exact .inr ⟨by omega, hu⟩
theorem flat3_es {w : World} {S : Foot} : ∀ (ls : List (Nat × Value × List UInt8)), (∀ x ∈ ls, x.1 < 2 ^ 64 ∧ DatA w S x.2.1 x.2.2) → EsC w S (flat3 ls) (ls.map fun x => (x.1, x.2.2))
  | [], _ => .nil
  | x :: l, h => .cons (h x (List.mem_cons_self ..)).1 (h x (List.mem_cons_self ..)).2 (flat3_es l fun y hy => h y (List.mem_cons_of_mem _ hy))
theorem list_of_fn {α : Type} [Inhabited α] (n : Nat) (p : Nat → α → Prop) (h : ∀ i, i < n → ∃ x, p i x) : ∃ l : List α, l.length = n ∧ ∀ i, i < n → p i (l.getD i default) := by
  obtain ⟨f, hf⟩ := choose_lt h
  refine ⟨(List.range n).map f, by simp, fun i hi => ?_⟩
  have : ((List.range n).map f).getD i default = f i := by
    rw [getD_of_lt _ _ _ (by simpa using hi)]; simp
  rw [this]; exact hf i hi
theorem DatA.of_rd {w : World} {v : Value} {l : List UInt8} (h : RdB w v l) (hz : ∀ b off c, v = .slice (some ⟨b, off, none⟩) l.length c → ∀ i, i < l.length → w.frozen? ⟨b, off + i, none⟩ = false) : DatA w (fun b => b < w.heap.size) v l := by
  have hlt : ∀ g, v.ownBlock = some g → l ≠ [] → g < w.heap.size := by
    intro g e hne
    obtain ⟨p, c, rfl, hp⟩ := h
    obtain ⟨b, off, rfl, hb, _⟩ := PtB.at hp (k := 0) (List.length_pos_iff.2 hne)
    cases e
    exact hb
  exact ⟨h, hlt, hlt, hz⟩

section
variable {H : Type} {enc : TypeId × Value → H} {w : World} {base : Nat} {held : Bool}
set_option maxRecDepth 100000 in
theorem ents_of_trod {d : DataW H} {p : List MemPlace} {a : Option Addr} {len cap : Nat}
    (hz : ∀ b off, MemPlace.cell b off ∈ p → w.frozen? ⟨b, off, none⟩ = false) (hs : Fits Try.prog 28 d) (h : DataW.Trod enc Try.prog w base (fun _ => true) true 28 (.slice a len cap) d p) : ∃ es, EsR w (fun b => b < w.heap.size) (.slice a len cap) es ∧ ∀ e ∈ es, e.2.length ≤ 140737488351232 := by
  obtain ⟨h1, h2, h3, h4⟩ := open_structs_fit (C := 2) Try.underlying28 Try.underlying53 (by kernel_rfl) ⟨_, Array.mem_of_getElem? (i := 0) rfl, rfl, by kernel_rfl⟩ (by decide) hs h
  rcases Nat.eq_zero_or_pos len with hz | hpos
  · subst hz
    exact ⟨[], ⟨a, cap, [], rfl, h1, h2, h3, .nil, fun h => absurd rfl h⟩, fun e he => by cases he⟩
  · obtain ⟨b, off, rfl, hb, hc⟩ := h4 hpos
    obtain ⟨ls, hl, hp⟩ := list_of_fn len (fun i (x : Nat × Value × List UInt8) => (w.cell? ⟨b, off + i * 2, none⟩ = some (.int .u64 (x.1 : Int)) ∧ w.cell? ⟨b, off + i * 2 + 1, none⟩ = some x.2.1) ∧ (x.1 < 2 ^ 64 ∧ DatA w (fun b => b < w.heap.size) x.2.1 x.2.2) ∧ x.2.2.length ≤ 140737488351232) (fun i hi => by
      obtain ⟨u0, y0, n0, c0, t0, _⟩ := hc i hi _ (Array.mem_of_getElem? (i := 0) rfl) (by kernel_rfl) (by decide)
      obtain ⟨u1, y1, n1, c1, t1, f1, g1⟩ := hc i hi _ (Array.mem_of_getElem? (i := 1) rfl) (by kernel_rfl) (by decide)
      obtain ⟨z0, e0, _, w0⟩ := DataW.trod_int Try.underlying22 t0
      obtain ⟨t, ht, htl, hfz⟩ : ∃ t, RdB w u1 t ∧ t.length ≤ 140737488351232 ∧ ∀ b off c, u1 = .slice (some ⟨b, off, none⟩) t.length c → ∀ i, i < t.length → w.frozen? ⟨b, off + i, none⟩ = false := by
        obtain ⟨a2, l2, c3, e2⟩ := Go.Joins.slice_form Try.underlying29 t1
        simp only [List.cons.injEq, and_true] at e2
        subst e2
        have h29 : DataW.Trod enc Try.prog w base (fun _ => true) true 29 (.slice a2 l2 c3) y1.1 y1.2 := ⟨n1, t1⟩
        obtain ⟨t, htl, ht⟩ := RdB_of_trod Try.underlying29 Try.underlying5 (by kernel_rfl) h29
        refine ⟨t, ht, by rw [htl]; exact bytes_fit Try.underlying29 (by kernel_rfl) f1 h29, fun b off c e i hi => ?_⟩
        cases e
        exact hz _ _ (g1 _ (bytes_places Try.underlying29 (by kernel_rfl) h29 _ _ rfl i (by omega)))
      simp only [List.cons.injEq, and_true] at e0
      subst e0
      obtain ⟨m, hm⟩ : ∃ m : Nat, z0 = (m : Int) := ⟨z0.toNat, by have := (wf_u64 w0).1; omega⟩
      subst hm
      exact ⟨(m, u1, t), ⟨c0, c1⟩, ⟨by have := (wf_u64 w0).2; show m < 2 ^ 64; omega, DatA.of_rd ht hfz⟩, htl⟩)
    subst hl
    refine ⟨ls.map fun x => (x.1, x.2.2), ⟨some ⟨b, off, none⟩, cap, flat3 ls, by rw [List.length_map], by rw [List.length_map]; exact h1, h2, h3, flat3_es ls fun x hx => ?_, fun _ => ⟨b, off, rfl, hb, hb, fun j u hu => ?_⟩⟩, fun e he => ?_⟩
    · obtain ⟨i, hi, hx⟩ := List.getElem_of_mem hx
      have := (hp i hi).2.1
      rw [getD_of_lt _ _ _ hi, hx] at this
      exact this
    · obtain ⟨k, hk, h⟩ := flat3_at ls j u hu
      have := (hp k hk).1
      rw [getD_of_lt _ _ _ hk] at this
      rcases h with ⟨rfl, rfl⟩ | ⟨rfl, rfl⟩
      · exact this.1
      · rw [← Nat.add_assoc]; exact this.2
    · obtain ⟨x, hx, rfl⟩ := List.mem_map.1 he
      obtain ⟨i, hi, hx⟩ := List.getElem_of_mem hx
      have := (hp i hi).2.2
      rw [getD_of_lt _ _ _ hi, hx] at this
      exact this
end
end Go.Proofs.Yteellfgiejnigaa
/- The walk of tame: how many entries, and how many bytes, calls hold. -/
namespace Go.Proofs.Yteellfgiejnigaa
open Go.ChangeShapes Go.WideShapes Go.ChangeAt Go.RowKit
set_option linter.unusedVariables false
def dsum : List Ent → Nat
  | [] => 0
  | e :: l => e.2.length + dsum l
theorem dsum_append : ∀ a b : List Ent, dsum (a ++ b) = dsum a + dsum b
  | [], b => by simp [dsum]
  | e :: l, b => by simp only [List.cons_append, dsum, dsum_append l b]; omega
theorem dsum_le {M : Nat} : ∀ l : List Ent, (∀ e ∈ l, e.2.length ≤ M) → dsum l ≤ l.length * M
  | [], _ => Nat.zero_le _
  | e :: l, h => by
    have h1 := h e (List.mem_cons_self ..)
    have h2 := dsum_le l fun x hx => h x (List.mem_cons_of_mem _ hx)
    rw [dsum, List.length_cons, Nat.add_mul]; omega
theorem le_dsum : ∀ (l : List Ent) (e : Ent), e ∈ l → e.2.length ≤ dsum l
  | x :: l, e, h => by
    rcases List.mem_cons.1 h with rfl | h
    · rw [dsum]; omega
    · have := le_dsum l e h; rw [dsum]; omega
end Go.Proofs.Yteellfgiejnigaa
/- What Meet says, in plain numbers: behind what is kept and added the log has what was met. -/
namespace Go.Proofs.Yteellfgiejnigaa
set_option linter.unusedVariables false
end Go.Proofs.Yteellfgiejnigaa
/- The law of TrackMeets. -/
namespace Go.Proofs.Yteellfgiejnigaa
open Go.ChangeShapes Go.WideShapes Go.ChangeAt Go.RowKit
set_option linter.unusedVariables false
end Go.Proofs.Yteellfgiejnigaa
/- The law of TrackMeets: the calls that are looked at. -/
namespace Go.Proofs.Yteellfgiejnigaa
open Go.ChangeShapes Go.WideShapes Go.ChangeAt Go.RowKit
set_option linter.unusedVariables false
theorem EsR.touch {S R : Foot} {w w' : World} {v : Value} {es : List Ent} (h : EsR w R v es) (t : Touch S w w') (hd : ∀ b, b < w.heap.size → R b → ¬ S b) : EsR w' R v es :=
  ((h.mono (S' := fun b => R b ∧ b < w.heap.size) fun b hb k => ⟨k, hb⟩).frame (t.same (fun b hb => hb.2) fun b hb => hd b hb.2 hb.1)).mono fun b _ hb => hb.1
theorem EsG.touch {S R : Foot} {w w' : World} {e : TypeId} {v : Value} {es : List Ent} (h : EsG w R e v es) (t : Touch S w w') (hd : ∀ b, b < w.heap.size → R b → ¬ S b) : EsG w' R e v es :=
  ((h.mono (S' := fun b => R b ∧ b < w.heap.size) fun b hb k => ⟨k, hb⟩).frame (t.same (fun b hb => hb.2) fun b hb => hd b hb.2 hb.1)).mono fun b _ hb => hb.1
theorem EsR.len_form {w : World} {S : Foot} {v : Value} {es : List Ent} (h : EsR w S v es) : ∃ p c, v = .slice p es.length c := by obtain ⟨p, c, xs, e, _⟩ := h; exact ⟨p, c, e⟩
theorem EsR.hi {w : World} {S : Foot} {p : Option Addr} {n c : Nat} {es : List Ent} (h : EsR w S (.slice p n c) es) {m : Nat} (hm : m ≤ es.length) : EsR w S (.slice p m c) (es.take m) := by
  obtain ⟨p', c', xs, e, h1, h2, h3, h4, h5⟩ := h
  cases e
  have hl : (es.take m).length = m := by rw [List.length_take]; omega
  refine ⟨p, c, xs.take (m * 2), by rw [hl], by omega, h2, h3, h4.take m, fun hne => ?_⟩
  obtain ⟨b, off, hp, hb, hlt, hc⟩ := h5 (by intro e; subst e; simp at hne)
  refine ⟨b, off, hp, hb, hlt, fun j u hu => ?_⟩
  rw [List.getElem?_take] at hu
  split at hu
  · exact hc j u hu
  · cases hu
end Go.Proofs.Yteellfgiejnigaa
