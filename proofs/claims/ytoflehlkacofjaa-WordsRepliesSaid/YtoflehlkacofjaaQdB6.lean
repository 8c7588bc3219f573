/- words.ReadCommand: the walk, kind by kind. -/
import Derived.Test.YtoflehlkacofjaaQdB5
import Derived.Deep.Cut
namespace Go.Proofs.Ytoflehlkacofjaa
open Go.ChangeShapes Go.WideShapes Go.ChangeAt Go.RowKit
set_option linter.unusedVariables false
theorem wpList_plain_value {ops : Array Oper} {rest : List Oper} {o : Oper} {a : Act} {w : World} {Q : Exit → Act → World → Prop} {v : Value} (hw : Region.wanted o (yielded ops a.tmps) = true) (he : (execOp a.eval o).run Try.prog w = .ok (.value v) w)
    (k : wpList Try.prog ops Q rest (a.put o.dst v) w) : wpList Try.prog ops Q (o :: rest) a w := by
  unfold wpList
  rw [if_pos hw]
  refine .inl ?_
  unfold Oper.wp
  rw [he]
  exact k
/-- The beginning: the result, the reader, its variable, the command. -/
theorem RC.begin {w W1 : World} {v : Value} {b : List UInt8} {n a : Nat} {e : Int} (hb : RdB w v b) (hl : b.length ≤ 1000000)
    (hm : Moved (((w.alloc (.cells zC 30)).alloc (.cells #[v, .int .i64 0, .int .i64 0] 98)).alloc (.cells #[.pointer (some ⟨w.heap.size + 1, 0, none⟩)] 70)) W1 (w.heap.size + 1) v a e) (hs : Form.small b 0 0 14 = (n, a, e)) :
    RC w (W1.alloc (.cells (kC n) 30)) v b (w.heap.size + 1) (w.heap.size + 1 + 1) W1.heap.size (Cm.rd0 b) := by
  obtain ⟨h1, h2⟩ := hm
  have hsz := h2.size
  simp only [heap_alloc_size] at hsz
  have hB3 : Below w.heap.size w (((w.alloc (.cells zC 30)).alloc (.cells #[v, .int .i64 0, .int .i64 0] 98)).alloc (.cells #[.pointer (some ⟨w.heap.size + 1, 0, none⟩)] 70)) :=
    (((Below.refl w.heap.size w).alloc (Nat.le_refl _) _).alloc (by rw [heap_alloc_size]; omega) _).alloc (by rw [heap_alloc_size, heap_alloc_size]; omega) _
  have hB : Below w.heap.size w W1 := hB3.grown h2 hB3.size (fun k e => by cases e; omega)
  have e0 : Cm.rd0 b = (Cm.start n, a, e) := by unfold Cm.rd0; rw [hs]
  have hn : n ≤ 14 := by have := small_top b 0 0 14; rw [hs] at this; exact this
  have ha : a ≤ b.length := by have := small_at (b := b) (a := 0) (e := 0) (most := 14) (Nat.zero_le _); rw [hs] at this; exact this
  have hbw : RdB W1 v b := (((hb.keeps ((Keeps.refl w).alloc _)).keeps ((Keeps.refl _).alloc _)).keeps ((Keeps.refl _).alloc _)).grown h2 (hb.off (by omega))
  have o1 : (((w.alloc (.cells zC 30)).alloc (.cells #[v, .int .i64 0, .int .i64 0] 98)).alloc (.cells #[.pointer (some ⟨w.heap.size + 1, 0, none⟩)] 70)).heap[w.heap.size + 1 + 1]? = some (.cells #[.pointer (some ⟨w.heap.size + 1, 0, none⟩)] 70) := by
    have := heap_alloc_new ((w.alloc (.cells zC 30)).alloc (.cells #[v, .int .i64 0, .int .i64 0] 98)) (.cells #[.pointer (some ⟨w.heap.size + 1, 0, none⟩)] 70)
    simpa using this
  have o2 : (((w.alloc (.cells zC 30)).alloc (.cells #[v, .int .i64 0, .int .i64 0] 98)).alloc (.cells #[.pointer (some ⟨w.heap.size + 1, 0, none⟩)] 70)).heap[w.heap.size]? = some (.cells zC 30) := by
    rw [Below.heap_alloc _ _ _ (by rw [heap_alloc_size, heap_alloc_size]; omega), Below.heap_alloc _ _ _ (by rw [heap_alloc_size]; omega)]; exact heap_alloc_new w _
  have hk : ∀ B, B ≠ w.heap.size + 1 → ∀ x, (((w.alloc (.cells zC 30)).alloc (.cells #[v, .int .i64 0, .int .i64 0] 98)).alloc (.cells #[.pointer (some ⟨w.heap.size + 1, 0, none⟩)] 70)).heap[B]? = some x → (W1.alloc (.cells (kC n) 30)).heap[B]? = some x := fun B hB x hx => by
    have hlt := (Array.getElem?_eq_some_iff.1 hx).1
    rw [Below.heap_alloc _ _ _ (by simp at hlt; omega), h2.block B hlt (by simpa using hB)]; exact hx
  rw [e0]
  refine ⟨h1.keeps ((Keeps.refl W1).alloc _), hbw.keeps ((Keeps.refl W1).alloc _), hk _ (by omega) _ o1, CcAt.new W1 _, hk _ (by omega) _ o2, fun y hy => hb.off hy, ha, hl, Cm.start_ok n (by omega), by omega, by omega, by omega, by omega, by omega, by omega, hB.alloc hB.size _⟩
theorem RC.result {w W : World} {v : Value} {b : List UInt8} {R V C : Nat} {s : Cm.St} (h : RC w W v b R V C s) (ds : Array Value) : Below w.heap.size w (W.setRow w.heap.size ds) ∧ (W.setRow w.heap.size ds).heap[w.heap.size]? = some (.cells ds 30) := by
  have h1 : Below w.heap.size W (W.setRow w.heap.size ds) := ⟨rfl, rfl, rfl, by simp [World.setRow], fun k hk => setRow_other _ _ _ _ (by omega)⟩
  exact ⟨h.below.trans h1, setRow_heap _ _ _ _ _ _ h.rz⟩
theorem Cm.cells_one (x : Cm) : x.cells.all (·.oneCell') = true := cmc_one ..
end Go.Proofs.Ytoflehlkacofjaa
