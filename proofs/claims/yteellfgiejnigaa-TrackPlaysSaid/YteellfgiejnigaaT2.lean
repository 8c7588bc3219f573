/- A track as it lies; walks of last, Add and New. -/
import Derived.Test.YteellfgiejnigaaT1
namespace Go.Proofs.Yteellfgiejnigaa
open Go.ChangeShapes Go.WideShapes Go.ChangeAt Go.RowKit
set_option linter.unusedVariables false

structure TkAt (w : World) (S : Foot) (g B T : Nat) (v : Value) (es : List Ent) : Prop where
  cells : w.heap[g]? = some (.cells #[.int .u64 (B : Int), .int .u64 (T : Int), v] 67)
  foot : S g
  own : EsG w (fun b => S b ∧ b ≠ g) 53 v es
  bB : B < 2 ^ 64
  bT : T < 2 ^ 64
  fits : B + es.length < 2 ^ 64
theorem TkAt.lt {w : World} {S : Foot} {g B T : Nat} {v : Value} {es : List Ent} (h : TkAt w S g B T v es) : g < w.heap.size := (Array.getElem?_eq_some_iff.1 h.cells).1
theorem TkAt.frame {w w' : World} {S : Foot} {g B T : Nat} {v : Value} {es : List Ent} (h : TkAt w S g B T v es) (hs : SameOn S w w') : TkAt w' S g B T v es :=
  ⟨by rw [hs g h.foot]; exact h.cells, h.foot, h.own.frame fun b hb => hs b hb.1, h.bB, h.bT, h.fits⟩
theorem TkAt.keeps {w w' : World} {S : Foot} {g B T : Nat} {v : Value} {es : List Ent} (h : TkAt w S g B T v es) (hk : Keeps w w') : TkAt w' S g B T v es :=
  ⟨by rw [hk g h.lt]; exact h.cells, h.foot, h.own.keeps hk, h.bB, h.bT, h.fits⟩
theorem TkAt.mono {w : World} {S S' : Foot} {g B T : Nat} {v : Value} {es : List Ent} (h : TkAt w S g B T v es) (hs : ∀ b, b < w.heap.size → S b → S' b) : TkAt w S' g B T v es :=
  ⟨h.cells, hs g h.lt h.foot, h.own.mono fun b hlt hb => ⟨hs b hlt hb.1, hb.2⟩, h.bB, h.bT, h.fits⟩
theorem TkAt.c0 {w : World} {S : Foot} {g B T : Nat} {v : Value} {es : List Ent} (h : TkAt w S g B T v es) : w.cell? ⟨g, 0, none⟩ = some (.int .u64 (B : Int)) := by rw [cell_of_row _ _ _ _ _ _ h.cells]; rfl
theorem TkAt.c1 {w : World} {S : Foot} {g B T : Nat} {v : Value} {es : List Ent} (h : TkAt w S g B T v es) : w.cell? ⟨g, 1, none⟩ = some (.int .u64 (T : Int)) := by rw [cell_of_row _ _ _ _ _ _ h.cells]; rfl
theorem TkAt.c2 {w : World} {S : Foot} {g B T : Nat} {v : Value} {es : List Ent} (h : TkAt w S g B T v es) : w.cell? ⟨g, 2, none⟩ = some v := by rw [cell_of_row _ _ _ _ _ _ h.cells]; rfl
theorem TkAt.frozen {w : World} {S : Foot} {g B T : Nat} {v : Value} {es : List Ent} (h : TkAt w S g B T v es) (k : Nat) : w.frozen? ⟨g, k, none⟩ = false := by
  have h := h.cells
  simp [World.frozen?, h]

set_option maxRecDepth 100000 in
theorem last_w (S : Foot) (g B T : Nat) (v : Value) (es : List Ent) (w : World) (h : TkAt w S g B T v es) :
    Calls Try.prog 76 #[.pointer (some ⟨g, 0, none⟩)] w fun r w' => r = .returned (.int .u64 ((B + es.length : Nat) : Int)) ∧ Below w.heap.size w w' := by
  have c0 := h.c0
  have c2 := h.c2
  obtain ⟨p, c, rfl⟩ := h.own.form
  have hf := h.fits
  have hw1 : IntKind.u64.wrap ((es.length : Nat) : Int) = ((es.length : Nat) : Int) := IntWalk.u64_in _ (by omega)
  have hw2 : IntKind.u64.wrap ((B : Int) + ((es.length : Nat) : Int)) = ((B + es.length : Nat) : Int) := by rw [IntWalk.u64_in _ (by omega)]; omega
  generalize B + es.length = L at *
  generalize es.length = n at *
  clear h
  go_enter Try.func76, Try.ntmps76
  go_wp2
  go_quiet (fail)
  go_wp2
  go_ret
  exact ⟨rfl, ⟨rfl, rfl, rfl, Nat.le_refl _, fun _ _ => rfl⟩⟩

theorem append_ok {P : Program} {w w' : World} {t : TypeId} {v x v' : Value} {post : Value → World → Prop} {o : Oper} {ρ : Operand → Value} (s y : Operand)
    (ho : o.op = .call { callee := .builtin .append, args := #[s, y], argTypes := #[t, t] }) (hs : ρ s = v) (hy : ρ y = x) (hr : (Builtin.append_ #[t, t] o.type #[v, x]).run P w = .ok v' w') (hp : post v' w') : RegT.OpOK P ((execOp ρ o).run P w) post := by
  unfold execOp
  simp only [ho, resolve, invoke, builtin, Sem.run_bind, Sem.run_pure, Result.andThen_ok, List.map_toArray, List.map_cons, List.map_nil, hs, hy, hr]
  exact hp

/-- An element of a row of entries that is read. -/
theorem EsR.elem {w : World} {S : Foot} {v : Value} {es : List Ent} (h : EsR w S v es) (k : Nat) (hk : k < es.length) : ∃ b off n c d, v = .slice (some ⟨b, off, none⟩) n c ∧ es.length = n ∧
    w.rangeAt b (off + k * 2) [.int .u64 ((es[k].1 : Nat) : Int), d] ∧ DatA w S d es[k].2 ∧ es[k].1 < 2 ^ 64 := by
  obtain ⟨p, c, xs, rfl, h1, h2, h3, h4, h5⟩ := h
  obtain ⟨b, off, rfl, hb, hlt, hc⟩ := h5 (by intro e; subst e; simp at hk)
  obtain ⟨d, q1, q2, q3, q4⟩ := h4.at k hk
  refine ⟨b, off, _, c, d, rfl, rfl, ?_, q3, q4⟩
  intro j u hu
  match j, hu with
  | 0, hu => cases hu; exact hc _ _ q1
  | 1, hu => cases hu; rw [Nat.add_assoc]; exact hc _ _ q2
  | j + 2, hu => simp at hu
theorem stored53 (W1 : World) (t : Nat) (d : Value) : ∃ W2, Hid ((W1.alloc (.cells #[.int .u64 0, .slice none 0 0] 53)).setRow W1.heap.size #[.int .u64 (t : Int), d] = W2) ∧ EntAt W2 W1.heap.size t d ∧ Below W1.heap.size W1 W2 := by
  refine ⟨_, Lib.hid rfl, setRow_heap _ _ _ _ _ _ (heap_alloc_new W1 _), ⟨rfl, rfl, rfl, by simp [World.setRow], fun k hk => by rw [setRow_other _ _ _ _ (by omega), Below.heap_alloc W1 _ k hk]⟩⟩
theorem TkAt.put {W : World} {S S' : Foot} {g B T : Nat} {v y : Value} {es fs : List Ent} (h : TkAt W S g B T v es) (hg : S' g) (ho : EsG W (fun b => S' b ∧ b ≠ g) 53 y fs) (hf : B + fs.length < 2 ^ 64) : TkAt (W.setCell ⟨g, 2, none⟩ y) S' g B T y fs := by
  refine ⟨?_, hg, ho.frame fun b hb => Below.heap_setCell _ _ _ _ (by simpa using hb.2), h.bB, h.bT, hf⟩
  have hc := h.cells
  simp only [World.setCell, Array.getElem?_modify, hc, if_true, Option.map_some]
  rfl
end Go.Proofs.Yteellfgiejnigaa
