/- Slices of slices of bytes that came in: what they read as, and how great they are. -/
import Derived.Test.YteellfgiejnigaaOps
import Derived.Deep.Matrix
import Derived.SizedLaws
namespace Go.Proofs.Yteellfgiejnigaa
open Go.RowKit Go.Deep
set_option linter.unusedVariables false

theorem mem_weightsAll {H : Type} {P : Program} {e : TypeId} {d : DataW H} {x : Nat} (hx : x ∈ d.weights P e) : ∀ {l : List (DataW H)}, d ∈ l → x ∈ DataW.weightsAll P e l := by
  intro l h
  induction l with
  | nil => cases h
  | cons y l ih =>
    rw [DataW.weightsAll, List.mem_append]
    cases h with
    | head => exact .inl hx
    | tail _ h => exact .inr (ih h)
/-- What lies inside a slice is within the reach, too. -/
theorem sized_inner {H : Type} {P : Program} {ts : List TypeId} {ds : List (DataW H)} (h : (DataW.weightsEach P ts ds).all (· ≤ reachBytes) = true) {j : Nat} {t e q : TypeId} {elems spare es ss : List (DataW H)} (ht : ts[j]? = some t) (hd : ds[j]? = some (.slice elems spare))
    (hu : P.underlying t = some (.slice e)) (hq : P.underlying e = some (.slice q)) (hm : DataW.slice es ss ∈ elems) : (es.length + ss.length) * P.bytesOf q ≤ reachBytes := by
  have h1 : (es.length + ss.length) * P.bytesOf q ∈ (DataW.slice es ss : DataW H).weights P e := by simp [DataW.weights, hq]
  have := List.all_eq_true.1 h _ (DataW.weights_mem_each ht hd _ (show (es.length + ss.length) * P.bytesOf q ∈ (DataW.slice elems spare : DataW H).weights P t from by
    rw [DataW.weights, hu]; exact List.mem_cons_of_mem _ (List.mem_append_left _ (mem_weightsAll h1 hm))))
  simpa using this

/-- Rows of bytes, a cell each. -/
theorem RdBs_of_rows {w : World} {a : Addr} {len cap : Nat} {A : Nat → Option Addr} {L C : Nat → Nat} {Z : Nat → List Int} (hl : len ≤ cap) (hm : cap ≤ maxLen)
    (h : ∀ r, r < cap → w.cell? (a.add r) = some (.slice (A r) (L r) (C r)) ∧ L r ≤ C r ∧ C r ≤ maxLen ∧ (Z r).length = C r ∧ (∀ n ∈ Z r, (Lit.int .u8 n).wf = true) ∧ (A r = none → C r = 0) ∧
        ∀ a', A r = some a' → ∀ c, c < C r → w.cell? (a'.add c) = some (.int .u8 ((Z r).getD c 0))) :
    ∃ ls : List (List UInt8), ls.length = len ∧ RdBs w (.slice (some a) len cap) ls ∧ ∀ i, i < len → (ls.getD i []).length = L i := by
  have each : ∀ r, r < cap → ∃ l : List UInt8, l.length = L r ∧ RdB w (.slice (A r) (L r) (C r)) l := by
    intro r hr
    obtain ⟨_, h1, h2, h3, h4, h5, h6⟩ := h r hr
    refine RdB_of_row (zs := Z r) ?_
    cases hA : A r with
    | none =>
      have hc := h5 hA
      have hz : Z r = [] := List.eq_nil_of_length_eq_zero (by omega)
      exact .inl ⟨rfl, by omega, hc, hz⟩
    | some x => exact .inr ⟨x, rfl, h1, h2, h3, fun i hi => h6 x hA i (by omega), h4⟩
  let pick : Nat → List UInt8 := fun r => if hr : r < cap then (each r hr).choose else []
  have hp : ∀ r, r < cap → (pick r).length = L r ∧ RdB w (.slice (A r) (L r) (C r)) (pick r) := by
    intro r hr
    simp only [pick, hr, dif_pos]
    exact (each r hr).choose_spec
  have hgv : ∀ i, i < len → ((List.range len).map fun r => Value.slice (A r) (L r) (C r)).getD i undef = .slice (A i) (L i) (C i) := fun i hi => by
    rw [getD_of_lt _ _ _ (by simpa using hi)]; simp
  have hgl : ∀ i, i < len → ((List.range len).map pick).getD i [] = pick i := fun i hi => by
    rw [getD_of_lt _ _ _ (by simpa using hi)]; simp
  refine ⟨(List.range len).map pick, by simp, ⟨some a, cap, (List.range len).map fun r => .slice (A r) (L r) (C r), by simp, ⟨(fun e => by cases e), by simpa using hl, hm, fun hne => ?_⟩, by simp, fun i hi => ?_⟩, fun i hi => ?_⟩
  · have hpos : 0 < len := by
      rcases Nat.eq_zero_or_pos len with e | e
      · subst e; simp at hne
      · exact e
    have hc0 := (h 0 (by omega)).1
    obtain ⟨b, off, sp⟩ := a
    have hsp : sp = none := by
      unfold Addr.add at hc0
      simp only [if_true, World.cell?] at hc0
      split at hc0
      · split at hc0
        · cases hc0
        · rename_i hs; simpa using hs
      · cases hc0
    subst hsp
    refine ⟨b, off, rfl, fun i hi => ?_⟩
    have hi' : i < len := by simpa using hi
    have hadd : (⟨b, off, none⟩ : Addr).add i = ⟨b, off + i, none⟩ := by unfold Addr.add; split <;> simp_all
    rw [hgv i hi', ← hadd]
    exact (h i (by omega)).1
  · have hi' : i < len := by simpa using hi
    rw [hgv i hi', hgl i hi']
    exact (hp i (by omega)).2
  · rw [hgl i hi]; exact (hp i (by omega)).1
end Go.Proofs.Yteellfgiejnigaa
