/- The loop over the others, in labels. -/
import Derived.Test.YteellfgiejnigaaQnG9
namespace Go.Proofs.Yteellfgiejnigaa
open Go.ChangeShapes Go.WideShapes Go.ChangeAt Go.RowKit
set_option linter.unusedVariables false
theorem Mv.put {own : Own} {w : World} {l : Nat} {L : Nat → Prop} (h : L (own l)) (o' : Obj) : Mv L own w own (w.putObj l o') :=
  ⟨⟨rfl, rfl, rfl, by simp [World.putObj], fun b hb hn => World.putObj_heap_other (fun e => hn (by first | (rw [e]; exact h) | (rw [← e]; exact h)))⟩, fun _ _ => rfl⟩
/-- What a round of the body leaves. -/
def bodyOn (Φ : Nat → Own → World → Prop) (k : Nat) (own : Own) (W : World) : Exit → Act → World → Prop
  | .normal, _, W' => ∃ own', Φ (k + 1) own' W' ∧ Mv (fun l => l ≠ 9) own W own' W'
  | .exit id, _, _ => False
  | .ret, _, _ => False
  | .goto _, _, _ => False
  | .panic _, _, _ => False
  | .outgrown, _, _ => False
theorem others_loop {Q : Exit → Act → World → Prop} {a : Act} {wB : World} {ownB : Own} {N p n id : Nat} (hn : n ≤ 7) (hO : OtAt wB N p n id) (h9 : ownB N = 9) (hN : N < wB.heap.size) (hp : p < wB.heap.size)
    {ps : Array Tmp} {assign body : Code} {g : Operand} (hg : a.eval g = .func (.func 132) #[] #[.pointer (some ⟨N, 0, none⟩)]) (hps : ps.size = 1)
    (Φ : Nat → Own → World → Prop) (hΦp : ∀ k own A l o', Φ k own A → own l = 9 → wB.heap.size ≤ l → Φ k own (A.putObj l o'))
    (hΦo : ∀ k own A, Φ k own A → A.cell? ⟨p, 0, none⟩ = some (.int .i64 (n : Int)) ∧ A.cell? ⟨p, 1, none⟩ = some (.int .i64 (id : Int)))
    (h0 : ∀ W, Below wB.heap.size wB W → Φ 0 (ext ownB wB.heap.size 9) W) (a₁ : Nat → Act)
    (hassign : ∀ (l k : Nat) (W : World) (K : Act → World → Prop), K (a₁ k) W →
      assign.wpIn (Fence.wide.inRound l) 0 Try.prog (Exit.then K (fun _ _ _ => False)) { tmps := (ps.zip #[.int .i64 ((otAt id n k : Nat) : Int)]).foldl (fun t (p, v) => t.setIfInBounds p v) a.tmps, defers := [] } W)
    (hbody : ∀ (l k : Nat) (own : Own) (W : World), Φ k own W → k < (otTo id n).length → Mv (fun l => l ≠ 9) ownB wB own W → body.wpIn (Fence.wide.inRound l) 0 Try.prog (bodyOn Φ k own W) (a₁ k) W)
    (hdone : ∀ (W : World) (own : Own), Φ (otTo id n).length own W → Mv (fun l => l ≠ 9) ownB wB own W → own wB.heap.size = 9 → W.heap[wB.heap.size]? = some (.deferred (some [])) → Q .normal { a with defers := { target := .collected wB.heap.size, args := #[] } :: a.defers } W) :
    (Code.rangeFunc g ps assign body).wpIn Fence.wide 0 Try.prog Q a wB := by
  refine range_law0 (gf := 132) (lb := #[.pointer (some ⟨N, 0, none⟩)]) hg (enters_of Try.func132 (by kernel_rfl) rfl) (others_iter wB N p n id hn hO hN hp) (fun k => hps.symm) (fun h k => h.trans k)
    (fun W l o' hl => KpOt.of_same (World.putObj_heap_other (by omega)) (World.putObj_heap_other (by omega)))
    (fun k W => ∃ own, Φ k own W ∧ own wB.heap.size = 9 ∧ own (wB.heap.size + 1) = 9 ∧ wB.heap.size + 1 < W.heap.size ∧ Mv (fun l => l ≠ 9) ownB wB own W) ?_ ?_ a₁ hassign ?_ ?_
  · rintro k A l o' hl ⟨own, h1, h2, h3, h4, h5⟩
    have hl9 : own l = 9 := by rcases hl with rfl | rfl <;> assumption
    refine ⟨own, hΦp k own A l o' h1 hl9 (by omega), h2, h3, by simpa [World.putObj] using h4, ⟨⟨h5.t.os, h5.t.tape, h5.t.output, by simpa [World.putObj] using h5.t.size, fun b hb hn => ?_⟩, h5.lab⟩⟩
    rw [World.putObj_heap_other (by omega)]; exact h5.t.block b hb hn
  · intro W hB hs
    exact ⟨_, h0 W hB, ext_ge (Nat.le_refl _), ext_ge (by omega), by omega, Mv.of_below hB 9⟩
  · rintro l k W ⟨own, h1, h2, h3, h4, h5⟩ hk hs
    refine wpIn_mono (hbody l k own W h1 hk h5) ?_
    intro e a3 W3 hp3
    cases e with
    | normal =>
      obtain ⟨own', q1, q2⟩ := hp3
      have hB : wB.heap.size < W.heap.size := by omega
      have hNW : N < W.heap.size := Nat.lt_of_lt_of_le hN h5.t.size
      obtain ⟨c1, c2⟩ := hΦo _ _ _ h1
      obtain ⟨d1, d2⟩ := hΦo _ _ _ q1
      have hN9 : own N = 9 := (h5.lab N hN).trans h9
      refine ⟨⟨q2.same hB (fun e => e h2), q2.same h4 (fun e => e h3)⟩, ⟨World.cell?_of_block (a := ⟨N, 0, none⟩) (q2.same hNW (fun e => e hN9)), d1.trans c1.symm, d2.trans c2.symm⟩, own', q1, (q2.lab _ hB).trans h2, (q2.lab _ h4).trans h3, Nat.lt_of_lt_of_le h4 q2.t.size, h5.trans q2⟩
    | exit id => exact hp3.elim
    | ret => exact hp3.elim
    | goto t => exact hp3.elim
    | panic ch => exact hp3.elim
    | outgrown => exact hp3.elim
  · rintro W ⟨own, h1, h2, h3, h4, h5⟩ hD
    exact hdone W own h1 h5 h2 hD
end Go.Proofs.Yteellfgiejnigaa
