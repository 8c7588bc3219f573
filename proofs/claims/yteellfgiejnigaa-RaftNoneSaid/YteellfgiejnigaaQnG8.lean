/- A step sends to a node what it should have next. -/
import Derived.Test.YteellfgiejnigaaQnG7
import Derived.Test.YteellfgiejnigaaQnL4
namespace Go.Proofs.Yteellfgiejnigaa
open Go.ChangeShapes Go.WideShapes Go.ChangeAt Go.RowKit
set_option linter.unusedVariables false
section
variable {ops : Array Oper} {rest : List Oper} {o : Oper} {a : Act} {w : World} {Q : Exit → Act → World → Prop} {P : Program}
theorem wpList_append_rog {α : Type} {R : Rep α} (hgd : o.guard = none) (s x : Operand) (t : TypeId) (ho : o.op = .call { callee := .builtin .append, args := #[s, x], argTypes := #[t, t] }) {S S' : Foot}
    {e : TypeId} {z : Value} {bytes : Nat} (he : Elem P t e z R.k bytes) {v : Value} {es : List α} (hs : a.eval s = v) (hown : RoG R w S e v es) {p : Option Addr} {c : Nat} {ys : List Value} {fs : List α} (hx : a.eval x = .slice p fs.length c) (hys : RoC R w (fun b => S' b ∧ v.ownBlock ≠ some b) ys fs)
    (hsrc : (p = none ∧ fs = [] ∧ c = 0) ∨ ∃ a, p = some a ∧ ∀ j u, ys[j]? = some u → w.cell? (a.add j) = some u)
    (h63 : es.length + fs.length ≤ maxLen) (hbytes : (es.length + fs.length) * bytes ≤ 140737488355328) (hS : ∀ b, S b → S' b) (hnew : S' w.heap.size)
    (h : ∀ p n c w', RoG R w' S' e (.slice p n c) (es ++ fs) → w.grownBy w' v.ownBlock → ((Value.slice p n c).ownBlock = v.ownBlock ∨ (Value.slice p n c).ownBlock = some w.heap.size) → n = es.length + fs.length → wpList P ops Q rest (a.put o.dst (.slice p n c)) w') : wpList P ops Q (o :: rest) a w := by
  refine wpList_plain hgd fun _ hK => ?_
  obtain ⟨v', w', hr, h2, h3, h4, _⟩ := run_append_rog (P := P) (ty := o.type) he hown hys hsrc h63 hbytes hS hnew
  obtain ⟨p2, c2, rfl⟩ := h2.form
  unfold Oper.wp execOp
  simp only [ho, resolve, invoke, builtin, Sem.run_bind, Sem.run_pure, Result.andThen_ok, List.map_toArray, List.map_cons, List.map_nil, hs, hx, hr]
  exact hK _ _ (h p2 _ c2 w' h2 h3 h4 List.length_append)
end
section
variable {own own' : Own} {w w' : World} {i p q g t0 : Nat} {who0 : Int} {r : RS.Rf} {x : Ov} {o : RS.Ou} {M : Nat}
theorem StAt.q0 (h : StAt own w i p q g t0 who0 r x o) : w.cell? ⟨q, 0, none⟩ = some (.pointer (some ⟨p, 0, none⟩)) := h.c 0
theorem StAt.q14 (h : StAt own w i p q g t0 who0 r x o) : w.cell? ⟨q, 14, none⟩ = some (.slice x.ap x.an x.ac) := h.c 14
theorem StAt.q16 (h : StAt own w i p q g t0 who0 r x o) : w.cell? ⟨q, 16, none⟩ = some (.slice x.np x.nn x.nc) := h.c 16
theorem NdAt.cn (h : NdAt own w i p g r) : w.cell? ⟨p, 0, none⟩ = some (.int .i64 (r.n : Int)) := h.c 0
theorem NdAt.cid (h : NdAt own w i p g r) : w.cell? ⟨p, 1, none⟩ = some (.int .i64 (r.id : Int)) := h.c 1
theorem NdAt.cT (h : NdAt own w i p g r) : w.cell? ⟨p, 2, none⟩ = some (.int .i64 (r.T : Int)) := h.c 2
theorem NdAt.cterm (h : NdAt own w i p g r) : w.cell? ⟨p, 3, none⟩ = some (.int .u64 (r.term : Int)) := h.c 3
theorem NdAt.cwho (h : NdAt own w i p g r) : w.cell? ⟨p, 4, none⟩ = some (.int .i64 r.who) := h.c 4
theorem NdAt.ctk (h : NdAt own w i p g r) : w.cell? ⟨p, 5, none⟩ = some (.pointer (some ⟨g, 0, none⟩)) := h.c 5
theorem NdAt.ccommit (h : NdAt own w i p g r) : w.cell? ⟨p, 6, none⟩ = some (.int .u64 (r.commit : Int)) := h.c 6
theorem NdAt.crole (h : NdAt own w i p g r) : w.cell? ⟨p, 7, none⟩ = some (.int .u8 (r.role : Int)) := h.c 7
theorem NdAt.cleader (h : NdAt own w i p g r) : w.cell? ⟨p, 8, none⟩ = some (.int .i64 r.leader) := h.c 8
theorem NdAt.cleft (h : NdAt own w i p g r) : w.cell? ⟨p, 9, none⟩ = some (.int .i64 r.left) := h.c 9
theorem NdAt.cquiet (h : NdAt own w i p g r) : w.cell? ⟨p, 10, none⟩ = some (.int .i64 r.quiet) := h.c 10
theorem NdAt.cbeat (h : NdAt own w i p g r) : w.cell? ⟨p, 11, none⟩ = some (.int .i64 r.beat) := h.c 11
theorem NdAt.cround (h : NdAt own w i p g r) : w.cell? ⟨p, 12, none⟩ = some (.int .u64 (r.round : Int)) := h.c 12
theorem NdAt.cnext (h : NdAt own w i p g r) {f : Nat} (hf : f < 7) : w.cell? ⟨p, 20 + f * 2, none⟩ = some (.int .u64 (r.next f : Int)) := (h.c _).trans (rfc_next r g hf)
theorem NdAt.cmt (h : NdAt own w i p g r) {f : Nat} (hf : f < 7) : w.cell? ⟨p, 20 + f * 2 + 1, none⟩ = some (.int .u64 (r.mt f : Int)) := (h.c _).trans (rfc_mt r g hf)
theorem StAt.below (h : StAt own w i p q g t0 who0 r x o) (hB : Below w.heap.size w w') : StAt (ext own w.heap.size 9) w' i p q g t0 who0 r x o := h.mv (L := fun _ => False) (Mv.of_below hB 9) id id
theorem NdAt.below (h : NdAt own w i p g r) (hB : Below w.heap.size w w') : NdAt (ext own w.heap.size 9) w' i p g r := h.mv (L := fun _ => False) (Mv.of_below hB 9) id
/-- A row of the step's grows. -/
theorem StAt.grown (h : StAt own w i p q g t0 who0 r x o) {u : Option Nat} (hg : w.grownBy w' u) (hu : ∀ b, u = some b → own b = 7 ∧ b ≠ q) :
    NdAt (ext own w.heap.size 7) w' i p g r ∧ w'.heap[q]? = some (.cells (stc p x t0 who0) 176) ∧ ext own w.heap.size 7 q = 7 ∧ Mv (fun l => l = 7) own w (ext own w.heap.size 7) w' := by
  have hm : Mv (fun l => l = 7) own w (ext own w.heap.size 7) w' := Mv.of_touch (Touch.of_grownBy (S := fun b => u = some b) hg fun b e => e) (fun b _ e => (hu b e).1) 7
  have hi := h.nd.hi
  exact ⟨h.nd.mv hm (by omega), ((Touch.of_grownBy (S := fun b => u = some b) hg fun b e => e).block q h.lt fun e => (hu q e).2 rfl).trans h.rq, (ext_lt h.lt).trans h.oq, hm⟩
theorem StAt.needPush (h : StAt own w i p q g t0 who0 r x o) {f : Nat} {pn : Option Addr} {n c : Nat} (hro : RoG intR w' (Ft (ext own w.heap.size 7) 7 q) 3 (.slice pn n c) (o.need ++ [f])) (hg : w.grownBy w' (Value.slice x.np x.nn x.nc).ownBlock)
    (hnew : (Value.slice pn n c).ownBlock = (Value.slice x.np x.nn x.nc).ownBlock ∨ (Value.slice pn n c).ownBlock = some w.heap.size) :
    StAt (ext own w.heap.size 7) (w'.setCell ⟨q, 16, none⟩ (.slice pn n c)) i p q g t0 who0 r { x with np := pn, nn := n, nc := c } { o with need := o.need ++ [f] } ∧ Mv (fun l => l = 7) own w (ext own w.heap.size 7) (w'.setCell ⟨q, 16, none⟩ (.slice pn n c)) := by
  have hfoot : ∀ b, (Value.slice x.np x.nn x.nc).ownBlock = some b → own b = 7 ∧ b ≠ q := fun b e => (h.ov.ne.foot b e).1
  obtain ⟨h1, h2, h3, h4⟩ := h.grown hg hfoot
  have hse : RoG sentR w' (OffS (Ft (ext own w.heap.size 7) 7 q) (.slice pn n c)) 164 (.slice x.sp x.sn x.sc) o.send := by
    refine (footed_rog sentR 164 _ _).move h.ov.se fun b hb e => ⟨⟨⟨(ext_lt hb).trans e.1.1, e.1.2⟩, fun e2 => ?_⟩, (Touch.of_grownBy (S := fun b => (Value.slice x.np x.nn x.nc).ownBlock = some b) hg fun b e => e).block b hb e.2⟩
    rcases hnew with h5 | h5
    · rw [h5] at e2; exact e.2 e2
    · rw [h5] at e2; cases e2; exact Nat.lt_irrefl _ hb
  refine ⟨?_, h4.trans (Mv.set (L := fun l => l = 7) (own := ext own w.heap.size 7) (a := ⟨q, 16, none⟩) h3 _)⟩
  have hi := h.nd.hi
  have hpq := h.ne
  refine ⟨h1.mv (L := fun l => l = 7) (Mv.set (a := ⟨q, 16, none⟩) h3 _) (by omega), ?_, h3, ?_⟩
  · rw [heap_setCell_same h2]; rfl
  · exact (footed_ov _ _).frame (w := w') ⟨h.ov.an, hse, hro⟩ fun b hb => Below.heap_setCell _ _ _ _ hb.2
theorem termAt_rs (B T : Nat) (es : List Ent) (k : Nat) : RS.termAt B T es k = termAt B T es k := rfl
theorem tipT_rs (T : Nat) (es : List Ent) : RS.tipT T es = tipT T es := by
  unfold RS.tipT tipT
  cases es.getLast? <;> rfl
theorem sliceR_rs (B : Nat) (es : List Ent) (fr : Nat) : sliceR B es fr 16 = RS.sliceR B es fr 16 := by
  unfold sliceR RS.sliceR
  simp
end
end Go.Proofs.Yteellfgiejnigaa
