/- A range over a function that keeps a number of its own in a cell: the loop's law. The rounds are counted; what the caller knows must bear that the cell is written. -/
import Derived.Test.YteellfgiejnigaaT4
import Derived.RangeFuncNested
import Derived.RangeFuncBound
import Derived.RangeFuncCalls
import Derived.RangeFuncLeaves
import Derived.Shelf.Abstract
import Derived.Shelf.RegionOpen
import Derived.OwnWalkIn
import Derived.TacticsInMore
import Derived.LoopNIn
import Derived.LoopIn
namespace Go.Proofs.Yteellfgiejnigaa
open Go.ChangeShapes Go.WideShapes Go.ChangeAt Go.RowKit
set_option linter.unusedVariables false

/-- What the iterator says: round k is handed 'encs k'; it writes its cell at block Bp alone, and asks of a round that it keeps Kp. -/
def Iter (P : Program) (gf : FuncId) (lb : Array Value) (encs : Nat → Array Value) (N : Nat) (Kp : World → World → Prop) (Bp : Nat) (w : World) : Prop :=
  ∀ (l : Nat) (J Jx : Nat → World → Prop) (W : World), Below w.heap.size w W → (∀ k A v, J k A → J k (A.setCell ⟨Bp, 0, none⟩ v)) →
    (∀ k W1, J k W1 → k < N → YieldAt Fence.wide 0 P l (encs k) W1 fun e W' => (e = .returned (.bool true) ∧ J (k + 1) W' ∧ Kp W1 W') ∨ (e = .returned (.bool false) ∧ Jx k W')) →
    J 0 W → CallsIn Fence.wide 0 P gf (#[.func (.yield l) #[] #[]] ++ lb) W fun e W' => (∃ v, e = .returned v) ∧ (J N W' ∨ ∃ k, k < N ∧ Jx k W')

/-- The loop's own two blocks are as they were. -/
def Recs (B : Nat) (W W' : World) : Prop := W'.heap[B]? = W.heap[B]? ∧ W'.heap[B + 1]? = W.heap[B + 1]?
theorem Recs.refl (B : Nat) (W : World) : Recs B W W := ⟨rfl, rfl⟩
theorem Recs.trans {B : Nat} {W W1 W2 : World} (h : Recs B W W1) (k : Recs B W1 W2) : Recs B W W2 := ⟨k.1.trans h.1, k.2.trans h.2⟩
theorem Recs.keeps {B : Nat} {W W' : World} (h : Keeps W W') (hB : B + 1 < W.heap.size) : Recs B W W' := ⟨h B (by omega), h (B + 1) hB⟩

/-- How a round's body may be left. -/
def roundWays (B : Nat) (c0 : Code) (Kp : World → World → Prop) (I Ix : Nat → World → Prop) (k : Nat) (W : World) : Exit → Act → World → Prop
  | .normal, _, W' => Recs B W W' ∧ Kp W W' ∧ I (k + 1) W'
  | .exit id, _, W' => c0 = .exit id ∧ Recs B W W' ∧ Ix k W'
  | .ret, _, _ => False
  | .goto _, _, _ => False
  | .panic _, _, _ => False
  | .outgrown, _, _ => False

theorem range_law {P : Program} {g : Operand} {ps : Array Tmp} {assign body : Code} {Q : Exit → Act → World → Prop} {a : Act} {w : World}
    {gf : FuncId} {lb : Array Value} (hg : a.eval g = .func (.func gf) #[] lb) (eg : ∀ args w, (callFunc gf args).run P w = .ok (.enter gf args) w)
    {encs : Nat → Array Value} {N : Nat} {Kp : World → World → Prop} {Bp : Nat} (hBp : Bp < w.heap.size) (hseq : Iter P gf lb encs N Kp Bp w) (hps : ∀ k, (encs k).size = ps.size)
    (hKt : ∀ {A B C : World}, Kp A B → Kp B C → Kp A C) (hKb : ∀ (W : World) (l : Nat) (o' : Obj), w.heap.size ≤ l → Kp W (W.putObj l o'))
    (c0 : Code) (hc0 : ∃ id, c0 = .exit id) (I Ix : Nat → World → Prop) (hI : ∀ k A l o', (l = w.heap.size ∨ l = w.heap.size + 1) → I k A → I k (A.putObj l o')) (hIx : ∀ k A l o', (l = w.heap.size ∨ l = w.heap.size + 1) → Ix k A → Ix k (A.putObj l o'))
    (hIw : ∀ k A v, I k A → I k (A.setCell ⟨Bp, 0, none⟩ v))
    (h0 : ∀ W, Below w.heap.size w W → w.heap.size + 2 ≤ W.heap.size → I 0 W) (a₁ : Nat → Act)
    (hassign : ∀ (l k : Nat) (W : World) (K : Act → World → Prop), K (a₁ k) W →
      assign.wpIn (Fence.wide.inRound l) 0 P (Exit.then K (fun _ _ _ => False)) { tmps := (ps.zip (encs k)).foldl (fun t (p, v) => t.setIfInBounds p v) a.tmps, defers := [] } W)
    (hbody : ∀ (l k : Nat) (W : World), I k W → k < N → w.heap.size + 1 < W.heap.size → body.wpIn (Fence.wide.inRound l) 0 P (roundWays w.heap.size c0 Kp I Ix k W) (a₁ k) W)
    (hdone : ∀ (W : World), I N W → W.heap[w.heap.size]? = some (.deferred (some [])) → Q .normal { a with defers := { target := .collected w.heap.size, args := #[] } :: a.defers } W)
    (hstop : ∀ (k : Nat) (W : World), k < N → Ix k W → W.heap[w.heap.size]? = some (.deferred (some [])) → c0.wpIn Fence.wide 0 P Q { a with defers := { target := .collected w.heap.size, args := #[] } :: a.defers } W) :
    (Code.rangeFunc g ps assign body).wpIn Fence.wide 0 P Q a w := by
  obtain ⟨id0, rfl⟩ := hc0
  refine wpIn_rangeFunc ?_
  intro fn hfn
  obtain ⟨rec, hrec⟩ : ∃ rec : LoopState → Option Code → Loop, rec = fun st pe => { state := st, pending := pe, fn, tmps := a.tmps, params := ps, assign, body, defers := w.heap.size } := ⟨_, rfl⟩
  obtain ⟨W1, hW1⟩ : ∃ W1, (w.alloc (.deferred (some []))).alloc (.loop (rec .ready none)) = W1 := ⟨_, rfl⟩
  have hb1 : Below w.heap.size w W1 := by rw [← hW1]; exact ((Below.refl _ w).alloc (Nat.le_refl _) _).alloc (by simp) _
  have hs1 : w.heap.size + 2 ≤ W1.heap.size := by rw [← hW1]; simp
  have hL : W1.heap[w.heap.size + 1]? = some (.loop (rec .ready none)) := by
    rw [← hW1]; have := World.alloc_heap_new (w.alloc (.deferred (some []))) (.loop (rec .ready none)); rwa [World.size_alloc] at this
  have hD : W1.heap[w.heap.size]? = some (.deferred (some [])) := by rw [← hW1]; exact (Below.heap_alloc _ _ _ (by simp)).trans (World.alloc_heap_new w _)
  refine ⟨w.heap.size + 1, [{ target := .collected w.heap.size, args := #[] }], W1, { target := .fn (.func gf) lb, args := #[.func (.yield (w.heap.size + 1)) #[] #[]] }, W1, gf,
    #[.func (.yield (w.heap.size + 1)) #[] #[]] ++ lb, W1, ?_, ?_, ?_, ?_, ?_, ?_⟩
  · rw [← hW1, hrec]; exact run_enterLoop_outer _ _ _ _ _
  · simp only [resolve, hg]
    simp [go_sem]
  · intro f' _; trivial
  · simp [invoke, go_sem, eg]
  · intro h; cases h
  · refine (hseq (w.heap.size + 1)
      (fun k W => I k W ∧ W.heap[w.heap.size + 1]? = some (.loop (rec .ready none)) ∧ W.heap[w.heap.size]? = some (.deferred (some [])))
      (fun k W => Ix k W ∧ W.heap[w.heap.size + 1]? = some (.loop (rec .done (some (.exit id0)))) ∧ W.heap[w.heap.size]? = some (.deferred (some [])))
      W1 hb1 (fun k A v h => ⟨hIw k A v h.1, by rw [Below.heap_setCell _ _ _ _ (by simp; omega)]; exact h.2.1, by rw [Below.heap_setCell _ _ _ _ (by simp; omega)]; exact h.2.2⟩) ?_ ⟨h0 W1 hb1 hs1, hL, hD⟩).mono ?_
    · rintro k W ⟨hi, hl, hk⟩ hlt
      have hlw : w.heap.size + 1 < W.heap.size := (Array.getElem?_eq_some_iff.1 hl).1
      have hy := run_yield (P := P) (args := encs k) hl (by rw [hrec]; exact hps k)
      rw [hrec] at hy
      refine ⟨fn, _, assign, body, hy, roundIn_of_wpIn hfn (hassign _ k W _ ⟨_, run_beginRound hl (by rw [hrec]), ?_⟩)⟩
      obtain ⟨W2, hW2⟩ : ∃ W2, W.putObj (w.heap.size + 1) (.loop { rec .ready none with state := .busy }) = W2 := ⟨_, rfl⟩
      have hl2 : W2.heap[w.heap.size + 1]? = some (.loop { rec .ready none with state := .busy }) := by rw [← hW2]; exact World.putObj_heap_same hlw
      have hk2 : W2.heap[w.heap.size]? = some (.deferred (some [])) := by rw [← hW2]; exact (World.putObj_heap_other (by omega)).trans hk
      have hi2 : I k W2 := by rw [← hW2]; exact hI k W _ _ (.inr rfl) hi
      have hw2 : Kp W W2 := by rw [← hW2]; exact hKb _ _ _ (by omega)
      rw [hW2]
      refine wpIn_mono (hbody _ k W2 hi2 hlt (Array.getElem?_eq_some_iff.1 hl2).1) ?_
      rintro e a3 W3 hp
      cases e with
      | normal =>
        obtain ⟨hr3, hk3, hi3⟩ := hp
        have hl3 := hr3.2.trans hl2
        have he := run_endRound (P := P) none hl3
        rw [hrec] at he
        refine ⟨_, _, he, .inl ⟨rfl, ⟨hI _ _ _ _ (.inr rfl) hi3, ?_, ?_⟩, hKt (hKt hw2 hk3) (hKb _ _ _ (by omega))⟩⟩
        · rw [World.putObj_heap_same (Array.getElem?_eq_some_iff.1 hl3).1, hrec]; rfl
        · exact (World.putObj_heap_other (by omega)).trans (hr3.1.trans hk2)
      | exit id =>
        obtain ⟨e, hr3, hi3⟩ := hp
        cases e
        have hl3 := hr3.2.trans hl2
        have he := run_endRound (P := P) (some (.exit id0)) hl3
        rw [hrec] at he
        refine ⟨_, _, he, .inr ⟨rfl, hIx _ _ _ _ (.inr rfl) hi3, ?_, ?_⟩⟩
        · rw [World.putObj_heap_same (Array.getElem?_eq_some_iff.1 hl3).1, hrec]; rfl
        · exact (World.putObj_heap_other (by omega)).trans (hr3.1.trans hk2)
      | ret => exact hp.elim
      | goto t => exact hp.elim
      | panic ch => exact hp.elim
      | outgrown => exact hp.elim
    · rintro e W2 ⟨⟨v, rfl⟩, (⟨hi, hl, hk⟩ | ⟨k, hk0, hi, hl, hk⟩)⟩
      · have he := run_endLoop (P := P) hl (by rw [hrec]; simp)
        rw [hrec] at he
        exact ⟨none, _, he, hdone _ (hI _ _ _ _ (.inr rfl) hi) ((World.putObj_heap_other (by omega)).trans hk)⟩
      · have he := run_endLoop (P := P) hl (by rw [hrec]; simp)
        rw [hrec] at he
        exact ⟨some (.exit id0), _, he, hstop k _ hk0 (hIx _ _ _ _ (.inr rfl) hi) ((World.putObj_heap_other (by omega)).trans hk)⟩
end Go.Proofs.Yteellfgiejnigaa
