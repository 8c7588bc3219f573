/- Over any program: arguments that came in, and how great they are: bytes, slices of structs whose fields lie in one cell each. -/
import Derived.Test.YteellfgiejnigaaRows3
import Derived.SizedLaws
namespace Go.Proofs.Yteellfgiejnigaa
open Go.ChangeShapes Go.WideShapes Go.ChangeAt Go.RowKit Go.Deep
set_option linter.unusedVariables false

section
variable {H : Type} {enc : TypeId × Value → H} {P : Program} {w : World} {base : Nat} {held : Bool}

/-- All that is read of this datum is within the reach. -/
def Fits (P : Program) (t : TypeId) (d : DataW H) : Prop := ∀ x ∈ d.weights P t, x ≤ reachBytes
theorem Fits.arg {ts : List TypeId} {ds : List (DataW H)} (h : (DataW.weightsEach P ts ds).all (· ≤ reachBytes) = true) {j : Nat} {t : TypeId} {d : DataW H} (ht : ts[j]? = some t) (hd : ds[j]? = some d) : Fits P t d := by
  intro x hx
  have := List.all_eq_true.1 h x (DataW.weights_mem_each ht hd x hx)
  simpa using this

theorem bytes_fit {t e : TypeId} {d : DataW H} {p : List MemPlace} {a : Option Addr} {len cap : Nat} (ht : P.underlying t = some (.slice e)) (hb : P.bytesOf e = 1) (hs : Fits P t d)
    (h : DataW.Trod enc P w base (fun _ => true) held t (.slice a len cap) d p) : len ≤ 140737488351232 := by
  obtain ⟨fuel, hf⟩ := h
  rcases Go.Deep.open_slice ht hf with ⟨hcs, _⟩ | ⟨x, len', cap', m, n, D, Pl, hcs, _, hl, hm, hmm, hx, _⟩
  · simp [Value.cells] at hcs
    obtain ⟨rfl, rfl, rfl⟩ := hcs
    exact Nat.zero_le _
  · simp [Value.cells] at hcs
    obtain ⟨rfl, rfl, rfl⟩ := hcs
    simp only [Prod.mk.injEq] at hx
    obtain ⟨rfl, _⟩ := hx
    have := hs _ (show (((List.range len).map D).length + ((List.range (m - len)).map fun j => D (len + j)).length) * P.bytesOf e ∈ _ from by rw [DataW.weights, ht]; exact List.mem_cons_self ..)
    rw [hb, List.length_map, List.length_range, Nat.mul_one] at this
    unfold reachBytes at this
    omega

/-- Where the bytes of a row that came in lie. -/
theorem bytes_places {t e : TypeId} {d : DataW H} {p : List MemPlace} {a : Option Addr} {len cap : Nat} (ht : P.underlying t = some (.slice e)) (hc : P.cellsOf e = 1)
    (h : DataW.Trod enc P w base (fun _ => true) held t (.slice a len cap) d p) : ∀ b off, a = some ⟨b, off, none⟩ → ∀ i, i < len → MemPlace.cell b (off + i) ∈ p := by
  obtain ⟨fuel, hf⟩ := h
  intro b off e i hi
  rcases Go.Deep.open_slice ht hf with ⟨hcs, _⟩ | ⟨x, len', cap', m, n, D, Pl, hcs, _, hl, hm, hmm, hx, _⟩
  · simp [Value.cells] at hcs
    obtain ⟨rfl, rfl, rfl⟩ := hcs
    cases e
  · simp [Value.cells] at hcs
    obtain ⟨rfl, rfl, rfl⟩ := hcs
    cases e
    simp only [if_true] at hmm
    simp only [Prod.mk.injEq] at hx
    rw [hx.2, hc]
    refine List.mem_append_left _ ?_
    unfold MemPlace.row
    exact List.mem_map.2 ⟨i, List.mem_range.2 (by omega), rfl⟩

/-- A slice of structs that came in: nil, or it leads to cells, each of which reads by its field's type, within the reach. -/
theorem open_structs_fit {t e : TypeId} {fs : Array Field} {C : Nat} {d : DataW H} {p : List MemPlace} {a : Option Addr} {len cap : Nat} (ht : P.underlying t = some (.slice e)) (he : P.underlying e = some (.struct fs)) (hC : P.cellsOf e = C) (hz : ∃ f : Field, f ∈ fs ∧ f.offset = 0 ∧ P.cellsOf f.type = 1) (hpos : 0 < C)
    (hs : Fits P t d) (h : DataW.Trod enc P w base (fun _ => true) held t (.slice a len cap) d p) :
    len ≤ cap ∧ cap ≤ maxLen ∧ (a = none → cap = 0) ∧ (0 < len → ∃ b off, a = some ⟨b, off, none⟩ ∧ b < w.heap.size ∧ ∀ i, i < len → ∀ f : Field, f ∈ fs → P.cellsOf f.type = 1 → f.offset < C →
      ∃ u y n, w.cell? ⟨b, off + i * C + f.offset, none⟩ = some u ∧ DataW.trod enc P w base (fun _ => true) held n f.type [u] = some y ∧ Fits P f.type y.1 ∧ ∀ x ∈ y.2, x ∈ p) := by
  obtain ⟨fuel, hf⟩ := h
  rcases Go.Deep.open_slice ht hf with ⟨hcs, _⟩ | ⟨x, len', cap', m, n, D, Pl, hcs, hb, hl, hm, hmm, hd, hx⟩
  · simp [Value.cells] at hcs
    obtain ⟨rfl, rfl, rfl⟩ := hcs
    exact ⟨Nat.le_refl _, Nat.zero_le _, fun _ => rfl, fun h => absurd h (Nat.lt_irrefl _)⟩
  · simp [Value.cells] at hcs
    obtain ⟨rfl, rfl, rfl⟩ := hcs
    simp only [if_true] at hmm
    subst hmm
    simp only [Prod.mk.injEq] at hd
    obtain ⟨rfl, hp⟩ := hd
    have each : ∀ i, i < len → ∀ f : Field, f ∈ fs → P.cellsOf f.type = 1 → f.offset < C → ∃ u y n, w.cell? (x.add (i * C + f.offset)) = some u ∧ DataW.trod enc P w base (fun _ => true) held n f.type [u] = some y ∧ Fits P f.type y.1 ∧ ∀ x ∈ y.2, x ∈ p := by
      intro i hi f hf hc1 ho
      obtain ⟨cs', hc, ht'⟩ := hx i (Nat.lt_of_lt_of_le hi hl)
      rw [hC] at hc
      obtain ⟨ys, n', _, hyx, hlen, hyl, hff⟩ := DataW.trod_struct he ht'
      obtain ⟨_, hcl, hat⟩ := World.cells?_some hc
      obtain ⟨j, hj, hfj⟩ := Array.mem_iff_getElem.1 hf
      have h1 := hff j f (by rw [Array.getElem?_eq_getElem hj, hfj])
      rw [hc1] at h1
      have hol : f.offset < cs'.length := by omega
      have hone : (cs'.drop f.offset).take 1 = [cs'[f.offset]] := by rw [List.drop_eq_getElem_cons hol]; rfl
      rw [hone] at h1
      have hys : ys[j]? = some (ys[j]'(by omega)) := List.getElem?_eq_getElem (by omega)
      refine ⟨cs'[f.offset], _, n', ?_, h1.trans hys, ?_, ?_⟩
      · rw [← Go.Deep.add_add, hat f.offset ho, List.getElem?_eq_getElem hol]
      · intro z hz
        simp only [Prod.mk.injEq] at hyx
        refine hs z ?_
        rw [DataW.weights, ht]
        refine List.mem_cons_of_mem _ (List.mem_append_left _ (mem_weightsAll (d := D i) ?_ (List.mem_map.2 ⟨i, List.mem_range.2 hi, rfl⟩)))
        rw [hyx.1, DataW.weights, he]
        refine DataW.weights_mem_each (j := j) (t := f.type) (d := (ys[j]'(by omega)).1) ?_ ?_ z hz
        · rw [List.getElem?_map, Array.getElem?_toList, Array.getElem?_eq_getElem hj, hfj]; rfl
        · rw [List.getElem?_map, hys]; rfl
      · intro z hz
        simp only [Prod.mk.injEq] at hyx
        rw [hp]
        refine List.mem_append_right _ (List.mem_flatMap.2 ⟨i, List.mem_range.2 (Nat.lt_of_lt_of_le hi hl), ?_⟩)
        rw [hyx.2]
        exact List.mem_flatMap.2 ⟨_, List.getElem_mem _, hz⟩
    refine ⟨hl, hm, (fun h => by cases h), fun hpos' => ?_⟩
    obtain ⟨f0, hf0, ho0, hc0⟩ := hz
    obtain ⟨u, y, n0, hcell, _⟩ := each 0 hpos' f0 hf0 hc0 (by omega)
    rw [ho0, Nat.zero_mul] at hcell
    obtain ⟨b, off, rfl, hb3⟩ := plain_of_cell hcell
    refine ⟨b, off, rfl, hb3, fun i hi f hf hc1 ho => ?_⟩
    obtain ⟨u, y, n1, h1, h2⟩ := each i hi f hf hc1 ho
    rw [plain_add, ← Nat.add_assoc] at h1
    exact ⟨u, y, n1, h1, h2⟩
end
end Go.Proofs.Yteellfgiejnigaa
