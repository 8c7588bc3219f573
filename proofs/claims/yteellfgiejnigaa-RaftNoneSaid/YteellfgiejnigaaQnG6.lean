/- The other nodes, one by one: an iterator without a state of its own, and the loop over it. -/
import Derived.Test.YteellfgiejnigaaQnG5
namespace Go.Proofs.Yteellfgiejnigaa
open Go.ChangeShapes Go.WideShapes Go.ChangeAt Go.RowKit
set_option linter.unusedVariables false
attribute [local go_sem] Oper.semAt_some
/-- What the iterator says: round k is handed 'encs k'; it asks of a round that it keeps Kp. -/
def Iter0 (P : Program) (gf : FuncId) (lb : Array Value) (encs : Nat → Array Value) (N : Nat) (Kp : World → World → Prop) (w : World) : Prop :=
  ∀ (l : Nat) (J : Nat → World → Prop) (W : World), Below w.heap.size w W →
    (∀ k W1, J k W1 → k < N → YieldAt Fence.wide 0 P l (encs k) W1 fun e W' => e = .returned (.bool true) ∧ J (k + 1) W' ∧ Kp W1 W') →
    J 0 W → CallsIn Fence.wide 0 P gf (#[.func (.yield l) #[] #[]] ++ lb) W fun e W' => (∃ v, e = .returned v) ∧ J N W'
/-- How a round's body is left. -/
def roundOn (B : Nat) (Kp : World → World → Prop) (I : Nat → World → Prop) (k : Nat) (W : World) : Exit → Act → World → Prop
  | .normal, _, W' => Recs B W W' ∧ Kp W W' ∧ I (k + 1) W'
  | .exit id, _, _ => False
  | .ret, _, _ => False
  | .goto _, _, _ => False
  | .panic _, _, _ => False
  | .outgrown, _, _ => False
theorem range_law0 {P : Program} {g : Operand} {ps : Array Tmp} {assign body : Code} {Q : Exit → Act → World → Prop} {a : Act} {w : World}
    {gf : FuncId} {lb : Array Value} (hg : a.eval g = .func (.func gf) #[] lb) (eg : ∀ args w, (callFunc gf args).run P w = .ok (.enter gf args) w)
    {encs : Nat → Array Value} {N : Nat} {Kp : World → World → Prop} (hseq : Iter0 P gf lb encs N Kp w) (hps : ∀ k, (encs k).size = ps.size)
    (hKt : ∀ {A B C : World}, Kp A B → Kp B C → Kp A C) (hKb : ∀ (W : World) (l : Nat) (o' : Obj), w.heap.size ≤ l → Kp W (W.putObj l o'))
    (I : Nat → World → Prop) (hI : ∀ k A l o', (l = w.heap.size ∨ l = w.heap.size + 1) → I k A → I k (A.putObj l o'))
    (h0 : ∀ W, Below w.heap.size w W → w.heap.size + 2 ≤ W.heap.size → I 0 W) (a₁ : Nat → Act)
    (hassign : ∀ (l k : Nat) (W : World) (K : Act → World → Prop), K (a₁ k) W →
      assign.wpIn (Fence.wide.inRound l) 0 P (Exit.then K (fun _ _ _ => False)) { tmps := (ps.zip (encs k)).foldl (fun t (p, v) => t.setIfInBounds p v) a.tmps, defers := [] } W)
    (hbody : ∀ (l k : Nat) (W : World), I k W → k < N → w.heap.size + 1 < W.heap.size → body.wpIn (Fence.wide.inRound l) 0 P (roundOn w.heap.size Kp I k W) (a₁ k) W)
    (hdone : ∀ (W : World), I N W → W.heap[w.heap.size]? = some (.deferred (some [])) → Q .normal { a with defers := { target := .collected w.heap.size, args := #[] } :: a.defers } W) :
    (Code.rangeFunc g ps assign body).wpIn Fence.wide 0 P Q a w := by
  refine wpIn_rangeFunc ?_
  intro fn hfn
  obtain ⟨rec, hrec⟩ : ∃ rec : LoopState → Option Code → Loop, rec = fun st pe => { state := st, pending := pe, fn, tmps := a.tmps, params := ps, assign, body, defers := w.heap.size } := ⟨_, rfl⟩
  obtain ⟨W1, hW1⟩ : ∃ W1, (w.alloc (.deferred (some []))).alloc (.loop (rec .ready none)) = W1 := ⟨_, rfl⟩
  have hb1 : Below w.heap.size w W1 := by rw [← hW1]; exact ((Below.refl _ w).alloc (Nat.le_refl _) _).alloc (by simp) _
  have hs1 : w.heap.size + 2 ≤ W1.heap.size := by rw [← hW1]; simp
  have hL : W1.heap[w.heap.size + 1]? = some (.loop (rec .ready none)) := by
    rw [← hW1]; have := World.alloc_heap_new (w.alloc (.deferred (some []))) (.loop (rec .ready none)); rwa [World.size_alloc] at this
  have hD : W1.heap[w.heap.size]? = some (.deferred (some [])) := by rw [← hW1]; exact (Below.heap_alloc _ _ _ (by simp)).trans (World.alloc_heap_new w _)
  refine ⟨w.heap.size + 1, [{ target := .collected w.heap.size, args := #[] }], W1, { target := .fn (.func gf) lb, args := #[.func (.yield (w.heap.size + 1)) #[] #[]] }, W1, gf,
    #[.func (.yield (w.heap.size + 1)) #[] #[]] ++ lb, W1, ?_, ?_, ?_, ?_, ?_, ?_⟩
  · rw [← hW1, hrec]; exact run_enterLoop_outer _ _ _ _ _
  · simp only [resolve, hg]
    simp [go_sem]
  · intro f' _; trivial
  · simp [invoke, go_sem, eg]
  · intro h; cases h
  · refine (hseq (w.heap.size + 1)
      (fun k W => I k W ∧ W.heap[w.heap.size + 1]? = some (.loop (rec .ready none)) ∧ W.heap[w.heap.size]? = some (.deferred (some [])))
      W1 hb1 ?_ ⟨h0 W1 hb1 hs1, hL, hD⟩).mono ?_
    · rintro k W ⟨hi, hl, hk⟩ hlt
      have hlw : w.heap.size + 1 < W.heap.size := (Array.getElem?_eq_some_iff.1 hl).1
      have hy := run_yield (P := P) (args := encs k) hl (by rw [hrec]; exact hps k)
      rw [hrec] at hy
      refine ⟨fn, _, assign, body, hy, roundIn_of_wpIn hfn (hassign _ k W _ ⟨_, run_beginRound hl (by rw [hrec]), ?_⟩)⟩
      obtain ⟨W2, hW2⟩ : ∃ W2, W.putObj (w.heap.size + 1) (.loop { rec .ready none with state := .busy }) = W2 := ⟨_, rfl⟩
      have hl2 : W2.heap[w.heap.size + 1]? = some (.loop { rec .ready none with state := .busy }) := by rw [← hW2]; exact World.putObj_heap_same hlw
      have hk2 : W2.heap[w.heap.size]? = some (.deferred (some [])) := by rw [← hW2]; exact (World.putObj_heap_other (by omega)).trans hk
      have hi2 : I k W2 := by rw [← hW2]; exact hI k W _ _ (.inr rfl) hi
      have hw2 : Kp W W2 := by rw [← hW2]; exact hKb _ _ _ (by omega)
      rw [hW2]
      refine wpIn_mono (hbody _ k W2 hi2 hlt (Array.getElem?_eq_some_iff.1 hl2).1) ?_
      rintro e a3 W3 hp
      cases e with
      | normal =>
        obtain ⟨hr3, hk3, hi3⟩ := hp
        have hl3 := hr3.2.trans hl2
        have he := run_endRound (P := P) none hl3
        rw [hrec] at he
        refine ⟨_, _, he, rfl, ⟨hI _ _ _ _ (.inr rfl) hi3, ?_, ?_⟩, hKt (hKt hw2 hk3) (hKb _ _ _ (by omega))⟩
        · rw [World.putObj_heap_same (Array.getElem?_eq_some_iff.1 hl3).1, hrec]; rfl
        · exact (World.putObj_heap_other (by omega)).trans (hr3.1.trans hk2)
      | exit id => exact hp.elim
      | ret => exact hp.elim
      | goto t => exact hp.elim
      | panic ch => exact hp.elim
      | outgrown => exact hp.elim
    · rintro e W2 ⟨⟨v, rfl⟩, hi, hl, hk⟩
      have he := run_endLoop (P := P) hl (by rw [hrec]; simp)
      rw [hrec] at he
      exact ⟨none, _, he, hdone _ (hI _ _ _ _ (.inr rfl) hi) ((World.putObj_heap_other (by omega)).trans hk)⟩

/-! ### The others of a node -/
section
variable {own own' : Own} {w w' : World} {i p q g t0 : Nat} {who0 : Int} {r : RS.Rf} {x : Ov} {o : RS.Ou} {M : Nat}
theorem others_w (p : Nat) (w : World) :
    Calls Try.prog 129 #[.pointer (some ⟨p, 0, none⟩)] w fun e w' => e = .returned (.func (.func 132) #[] #[.pointer (some ⟨w.heap.size, 0, none⟩)]) ∧ w' = w.alloc (.cells #[.pointer (some ⟨p, 0, none⟩)] 86) := by
  go_enter Try.func129, Try.ntmps129
  go_wp2
  go_ret
  exact ⟨rfl, rfl⟩
/-- What the iterator reads. -/
def OtAt (w : World) (N p n id : Nat) : Prop := w.cell? ⟨N, 0, none⟩ = some (.pointer (some ⟨p, 0, none⟩)) ∧ w.cell? ⟨p, 0, none⟩ = some (.int .i64 (n : Int)) ∧ w.cell? ⟨p, 1, none⟩ = some (.int .i64 (id : Int))
def KpOt (N p : Nat) (A B : World) : Prop := B.cell? ⟨N, 0, none⟩ = A.cell? ⟨N, 0, none⟩ ∧ B.cell? ⟨p, 0, none⟩ = A.cell? ⟨p, 0, none⟩ ∧ B.cell? ⟨p, 1, none⟩ = A.cell? ⟨p, 1, none⟩
theorem KpOt.trans {N p : Nat} {A B C : World} (h : KpOt N p A B) (k : KpOt N p B C) : KpOt N p A C := ⟨k.1.trans h.1, k.2.1.trans h.2.1, k.2.2.trans h.2.2⟩
theorem OtAt.keep {N p n id : Nat} {A B : World} (h : OtAt A N p n id) (k : KpOt N p A B) : OtAt B N p n id := ⟨k.1.trans h.1, k.2.1.trans h.2.1, k.2.2.trans h.2.2⟩
theorem KpOt.of_same {N p : Nat} {A B : World} (h1 : B.heap[N]? = A.heap[N]?) (h2 : B.heap[p]? = A.heap[p]?) : KpOt N p A B := ⟨World.cell?_of_block (a := ⟨N, 0, none⟩) h1, World.cell?_of_block (a := ⟨p, 0, none⟩) h2, World.cell?_of_block (a := ⟨p, 1, none⟩) h2⟩
def otTo (id m : Nat) : List Nat := (List.range m).filter fun i => decide (i ≠ id)
/-- The other one at a place. -/
def otAt (id n k : Nat) : Nat := (otTo id n).getD k 0
theorem otTo_succ (id m : Nat) : otTo id (m + 1) = if m = id then otTo id m else otTo id m ++ [m] := by
  unfold otTo
  rw [List.range_succ, List.filter_append]
  by_cases h : m = id <;> simp [h]
theorem otTo_pre (id : Nat) : ∀ (n m : Nat), m ≤ n → ∃ t, otTo id n = otTo id m ++ t := by
  intro n
  induction n with
  | zero => intro m hm; obtain rfl : m = 0 := by omega
            exact ⟨[], by simp⟩
  | succ n ih =>
    intro m hm
    by_cases h : m = n + 1
    · subst h; exact ⟨[], by simp⟩
    · obtain ⟨t, ht⟩ := ih m (by omega)
      rw [otTo_succ, ht]
      by_cases e : n = id
      · rw [if_pos e]; exact ⟨t, rfl⟩
      · rw [if_neg e]; exact ⟨t ++ [n], by rw [List.append_assoc]⟩
theorem otTo_at {id n m : Nat} (hm : m < n) (hne : m ≠ id) : (otTo id m).length < (otTo id n).length ∧ otAt id n (otTo id m).length = m := by
  unfold otAt
  obtain ⟨t, ht⟩ := otTo_pre id n (m + 1) (by omega)
  rw [otTo_succ, if_neg hne] at ht
  rw [ht]
  refine ⟨by simp, ?_⟩
  rw [List.getD_eq_getElem?_getD, List.append_assoc, List.getElem?_append_right (Nat.le_refl _)]
  simp
set_option maxRecDepth 100000 in
theorem others_iter (w : World) (N p n id : Nat) (hn : n ≤ 7) (h : OtAt w N p n id) (hN : N < w.heap.size) (hp : p < w.heap.size) :
    Iter0 Try.prog 132 #[.pointer (some ⟨N, 0, none⟩)] (fun k => #[.int .i64 ((otAt id n k : Nat) : Int)]) (otTo id n).length (KpOt N p) w := by
  intro l J W hW hY h0
  have hA : OtAt W N p n id := h.keep (KpOt.of_same (hW.block N hN) (hW.block p hp))
  have HJ0 := Lib.hid h0
  have HY := Lib.hid hY
  have HA := Lib.hid hA
  obtain ⟨c1, c2, c3⟩ := hA
  have Hc1 := Lib.hid c1
  clear h0 hY h hW hN hp
  refine callsIn_of_wp Try.func132 rfl trivial ?_ rfl
  simp only [Try.ntmps132, List.size_toArray, List.length_cons, List.length_nil, Nat.reduceAdd, Nat.reduceSub, Array.replicate_succ, Array.replicate_zero, List.push_toArray, List.append_toArray, List.nil_append, List.cons_append]
  gi_wp2
  clear c1 c2 c3
  gi_loopw [9] (fun c wr => ∃ m : Nat, m ≤ n ∧ c = .int .i64 (m : Int) ∧ Hid (J (otTo id m).length wr) ∧ Hid (OtAt wr N p n id)) (fun c _ => n - (intOf c).toNat)
  case atStart => exact ⟨0, Nat.zero_le _, rfl, HJ0, HA⟩
  case round =>
    obtain ⟨m, hm, rfl, HJ, HO⟩ := hrel
    have d1 := HO.out.1
    have d2 := HO.out.2.2
    have hm0 : (0 : Int) ≤ (m : Int) := by omega
    have hm7 : (m : Int) ≤ 7 := by omega
    by_cases hlt : m < n
    · by_cases he : m = id
      · have e1 : ((m : Int) != (id : Int)) = false := by simp; omega
        have e2 : (m != id) = false := by simp; omega
        have Hs := Lib.hid (show otTo id (m + 1) = otTo id m by rw [otTo_succ, if_pos he])
        clear he
        gi_wp2
        refine ⟨fun f hf => (by cases hf), ?_⟩
        gi_wp2
        go_roundw
        case rel => exact ⟨m + 1, by omega, by go_num, Lib.hid (by rw [Hs.out]; exact HJ.out), HO⟩
        case measure => simp [intOf]; omega
      · have e1 : ((m : Int) != (id : Int)) = true := by simp; omega
        have e2 : (m != id) = true := by simp; omega
        have Hs := Lib.hid (show (otTo id (m + 1)).length = (otTo id m).length + 1 by rw [otTo_succ, if_neg he, List.length_append]; rfl)
        obtain ⟨q1, q2⟩ := otTo_at hlt he
        obtain ⟨fn, tmps, assign, body, hy, hR⟩ := HY.out _ _ HJ.out q1
        rw [q2] at hy
        clear he q1 q2
        gi_wp2
        refine ⟨rfl, hR.mono ?_⟩
        rintro e W3 ⟨rfl, hJ3, hk3⟩
        have HJ3 := Lib.hid hJ3
        have HO3 := Lib.hid (HO.out.keep hk3)
        clear hJ3 hk3 hR hy d1 d2
        gi_wp2
        go_roundw
        case rel => exact ⟨m + 1, by omega, by go_num, Lib.hid (by rw [Hs.out]; exact HJ3.out), HO3⟩
        case measure => simp [intOf]; omega
    · obtain rfl : m = n := by omega
      gi_wp2
      go_end0
      exact ⟨⟨_, rfl⟩, HJ.out⟩
end
end Go.Proofs.Yteellfgiejnigaa
