/- Over any program: arguments that came in: bytes, slices of structs whose fields lie in one cell each. -/
import Derived.Test.YteellfgiejnigaaRows2
import Derived.Deep.Slices
import Derived.ChangeSame
import Derived.OpenShut
import Derived.ProofKit
namespace Go.Proofs.Yteellfgiejnigaa
open Go.ChangeShapes Go.WideShapes Go.ChangeAt Go.RowKit Go.Deep
set_option linter.unusedVariables false

section
variable {H : Type} {enc : TypeId × Value → H} {P : Program} {w : World} {base : Nat} {spare : Nat → Bool} {held : Bool}

theorem RdB_of_trod {t e : TypeId} {d : DataW H} {p : List MemPlace} {a : Option Addr} {len cap : Nat} (ht : P.underlying t = some (.slice e)) (he : P.underlying e = some (.int .u8)) (hc : P.cellsOf e = 1)
    (h : DataW.Trod enc P w base (fun _ => true) true t (.slice a len cap) d p) : ∃ l, l.length = len ∧ RdB w (.slice a len cap) l := by
  obtain ⟨fuel, hf⟩ := h
  have hex : ∃ zs, IsRow .u8 w a len cap zs := by
    rcases open_ints ht he hc hf with ⟨hcs, _⟩ | ⟨x, l, c, zs, hcs, _, hl, hm, hz, _, hcell, hwz⟩
    · simp [Value.cells] at hcs
      obtain ⟨rfl, rfl, rfl⟩ := hcs
      exact ⟨[], .inl ⟨rfl, rfl, rfl, rfl⟩⟩
    · simp [Value.cells] at hcs
      obtain ⟨rfl, rfl, rfl⟩ := hcs
      exact ⟨zs, .inr ⟨_, rfl, hl, hm, by simpa using hz, hcell, hwz⟩⟩
  obtain ⟨zs, hz⟩ := hex
  exact RdB_of_row hz

theorem plain_of_cell {x : Addr} {v : Value} (h : w.cell? (x.add 0) = some v) : ∃ b off, x = ⟨b, off, none⟩ ∧ b < w.heap.size := by
  obtain ⟨b, off, sp⟩ := x
  have hb := block_lt_of_cell h
  unfold Addr.add at h hb
  simp only [if_true, World.cell?] at h hb
  split at h
  · split at h
    · cases h
    · rename_i hs
      exact ⟨b, off, by simpa using hs, hb⟩
  · cases h
theorem plain_add (b off i : Nat) : (⟨b, off, none⟩ : Addr).add i = ⟨b, off + i, none⟩ := by unfold Addr.add; split <;> simp_all

/-- A slice of structs that came in: nil, or it leads to cells, each of which reads by its field's type. -/
theorem open_structs {t e : TypeId} {fs : Array Field} {C : Nat} {d : DataW H} {p : List MemPlace} {a : Option Addr} {len cap : Nat} (ht : P.underlying t = some (.slice e)) (he : P.underlying e = some (.struct fs)) (hC : P.cellsOf e = C) (hz : ∃ f : Field, f ∈ fs ∧ f.offset = 0 ∧ P.cellsOf f.type = 1) (hpos : 0 < C)
    (h : DataW.Trod enc P w base (fun _ => true) held t (.slice a len cap) d p) :
    len ≤ cap ∧ cap ≤ maxLen ∧ (a = none → cap = 0) ∧ (0 < len → ∃ b off, a = some ⟨b, off, none⟩ ∧ b < w.heap.size ∧ ∀ i, i < len → ∀ f : Field, f ∈ fs → P.cellsOf f.type = 1 → f.offset < C →
      ∃ u y n, w.cell? ⟨b, off + i * C + f.offset, none⟩ = some u ∧ DataW.trod enc P w base (fun _ => true) held n f.type [u] = some y) := by
  obtain ⟨fuel, hf⟩ := h
  rcases Go.Deep.open_slice ht hf with ⟨hcs, _⟩ | ⟨x, len', cap', m, n, D, Pl, hcs, hb, hl, hm, hmm, _, hx⟩
  · simp [Value.cells] at hcs
    obtain ⟨rfl, rfl, rfl⟩ := hcs
    exact ⟨Nat.le_refl _, Nat.zero_le _, fun _ => rfl, fun h => absurd h (Nat.lt_irrefl _)⟩
  · simp [Value.cells] at hcs
    obtain ⟨rfl, rfl, rfl⟩ := hcs
    simp only [if_true] at hmm
    subst hmm
    have each : ∀ i, i < len → ∀ f : Field, f ∈ fs → P.cellsOf f.type = 1 → f.offset < C → ∃ u y n, w.cell? (x.add (i * C + f.offset)) = some u ∧ DataW.trod enc P w base (fun _ => true) held n f.type [u] = some y := by
      intro i hi f hf hc1 ho
      obtain ⟨cs', hc, ht'⟩ := hx i (Nat.lt_of_lt_of_le hi hl)
      rw [hC] at hc
      obtain ⟨ys, n', _, _, hlen, hyl, hff⟩ := DataW.trod_struct he ht'
      obtain ⟨_, hcl, hat⟩ := World.cells?_some hc
      obtain ⟨j, hj, hfj⟩ := Array.mem_iff_getElem.1 hf
      have h1 := hff j f (by rw [Array.getElem?_eq_getElem hj, hfj])
      rw [hc1] at h1
      have hol : f.offset < cs'.length := by omega
      have hone : (cs'.drop f.offset).take 1 = [cs'[f.offset]] := by rw [List.drop_eq_getElem_cons hol]; rfl
      rw [hone] at h1
      have hys : ys[j]? = some (ys[j]'(by omega)) := List.getElem?_eq_getElem (by omega)
      refine ⟨cs'[f.offset], _, n', ?_, h1.trans hys⟩
      rw [← Go.Deep.add_add, hat f.offset ho, List.getElem?_eq_getElem hol]
    refine ⟨hl, hm, (fun h => by cases h), fun hpos' => ?_⟩
    obtain ⟨f0, hf0, ho0, hc0⟩ := hz
    obtain ⟨u, y, n0, hcell, _⟩ := each 0 hpos' f0 hf0 hc0 (by omega)
    rw [ho0, Nat.zero_mul] at hcell
    obtain ⟨b, off, rfl, hb3⟩ := plain_of_cell hcell
    refine ⟨b, off, rfl, hb3, fun i hi f hf hc1 ho => ?_⟩
    obtain ⟨u, y, n1, h1, h2⟩ := each i hi f hf hc1 ho
    rw [plain_add, ← Nat.add_assoc] at h1
    exact ⟨u, y, n1, h1, h2⟩
end
end Go.Proofs.Yteellfgiejnigaa
