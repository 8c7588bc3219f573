/- What Meet says, in plain numbers: behind what is kept and added the log has what was met. -/
import Derived.Test.YteellfgiejnigaaT17
namespace Go.Proofs.Yteellfgiejnigaa
set_option linter.unusedVariables false

/-- What the log is behind what Meet says. -/
def nowL (B keep : Nat) (es add : List Ent) : List Ent := es.take (keep - B) ++ add
structure MeetLaw (B T : Nat) (es : List Ent) (prev keep : Nat) (ss add : List Ent) : Prop where
  lo : B ≤ keep
  hi : keep ≤ B + es.length
  at' : ∀ i, i < ss.length → B < prev + i + 1 → termAt B T (nowL B keep es add) (prev + i + 1) = ((ss.getD i (0, [])).1, true)
  tip : (add = [] ∧ keep = B + es.length) ∨ (0 < add.length ∧ keep + add.length = prev + ss.length)
  slice : sliceR B (nowL B keep es add) (B + 1) ((keep - B : Nat) : Int) = es.take (keep - B)
  sub : ∀ e ∈ add, e ∈ ss
  len : add.length ≤ ss.length
theorem nowL_len {B keep : Nat} {es add : List Ent} (hi : keep ≤ B + es.length) (lo : B ≤ keep) : B + (nowL B keep es add).length = keep + add.length := by
  unfold nowL; rw [List.length_append, List.length_take]; omega
theorem meet_slice {B keep : Nat} {es add : List Ent} (lo : B ≤ keep) (hi : keep ≤ B + es.length) : sliceR B (nowL B keep es add) (B + 1) ((keep - B : Nat) : Int) = es.take (keep - B) := by
  have hlen := nowL_len (add := add) hi lo
  unfold sliceR
  by_cases h : keep = B
  · rw [if_pos (.inr (.inr (by omega)))]
    simp [h]
  · rw [if_neg (by omega), show B + 1 - B - 1 = 0 by omega, List.drop_zero, Int.toNat_natCast]
    unfold nowL
    rw [List.take_append_of_le_length (by rw [List.length_take]; omega), List.take_take, Nat.min_self]
theorem termAt_of {B T : Nat} {es : List Ent} {i : Nat} (h : B < i) (h2 : i ≤ B + es.length) : termAt B T es i = ((es.getD (i - B - 1) (0, [])).1, true) := by
  unfold termAt
  rw [if_neg (by omega), if_neg (by omega)]
theorem meets_not {B T : Nat} {es : List Ent} {prev : Nat} {ss : List Ent} {k : Nat} (h : misses B T es prev ss k = false) (hb : B < prev + k + 1) : prev + k + 1 ≤ B + es.length ∧ (es.getD (prev + k - B) (0, [])).1 = (ss.getD k (0, [])).1 := by
  unfold misses at h
  have hin : prev + k + 1 ≤ B + es.length := by
    apply Classical.byContradiction
    intro hn
    have : termAt B T es (prev + k + 1) = (0, false) := by unfold termAt; rw [if_pos (.inr (by omega))]
    rw [this] at h
    simp [hb] at h
  rw [termAt_of hb hin] at h
  refine ⟨hin, ?_⟩
  rw [show prev + k - B = prev + k + 1 - B - 1 by omega]
  simpa [hb] using h
theorem meet_law {B T : Nat} {es : List Ent} {prev term : Nat} {ss : List Ent} (hB : B ≤ 9223372036854775808) (hp : prev ≤ 9223372036854775808) (hs : ss.length ≤ 30) :
    (meetR B T es prev term ss).2.2 = 0 → MeetLaw B T es prev (meetR B T es prev term ss).1 ss (meetR B T es prev term ss).2.1 := by
  have hN : placedN prev ss.length = ss.length := by unfold placedN; omega
  unfold meetR
  rw [hN]
  by_cases h1 : prev < B ∧ ss.length < B - prev
  · rw [if_pos h1]; intro h; cases h
  · rw [if_neg h1]
    by_cases h2 : B + es.length < prev ∨ ((termAt B T es prev).2 = true ∧ (termAt B T es prev).1 ≠ term)
    · rw [if_pos h2]; intro h; cases h
    · rw [if_neg h2]
      have hpl : prev ≤ B + es.length := by apply Classical.byContradiction; intro hn; exact h2 (.inl (by omega))
      clear h2
      cases hf : (List.range ss.length).find? (misses B T es prev ss) with
      | none =>
        intro _
        have hall : ∀ i, i < ss.length → misses B T es prev ss i = false := fun i hi => by
          have := List.find?_eq_none.1 hf i (List.mem_range.2 hi)
          simpa using this
        have e1 : nowL B (B + es.length) es [] = es := by unfold nowL; rw [List.append_nil, List.take_of_length_le (by omega)]
        refine ⟨by simp, Nat.le_refl _, fun i hi hb => ?_, .inl ⟨rfl, rfl⟩, meet_slice (by simp) (Nat.le_refl _), fun e he => (by cases he), Nat.zero_le _⟩
        obtain ⟨q1, q2⟩ := meets_not (hall i hi) hb
        show termAt B T (nowL B (B + es.length) es []) _ = _
        rw [e1, termAt_of hb q1, show prev + i + 1 - B - 1 = prev + i - B by omega, q2]
      | some k =>
        intro _
        obtain ⟨hk, hkm, hj⟩ := List.find?_range_eq_some.1 hf
        have hkl : k < ss.length := List.mem_range.1 hkm
        have hbk : B < prev + k + 1 := by
          unfold misses at hk
          have := (Bool.and_eq_true_iff.1 hk).1
          simpa using this
        have hall : ∀ i, i < k → misses B T es prev ss i = false := fun i hi => by simpa using hj i hi
        have hhi : prev + k ≤ B + es.length := by
          rcases Nat.eq_zero_or_pos k with h0 | h0
          · omega
          · by_cases hb : B < prev + (k - 1) + 1
            · have := (meets_not (hall (k - 1) (by omega)) hb).1; omega
            · omega
        refine ⟨by show B ≤ prev + k; omega, hhi, fun i hi hb => ?_, .inr ⟨by show 0 < (ss.drop k).length; rw [List.length_drop]; omega, by show prev + k + (ss.drop k).length = _; rw [List.length_drop]; omega⟩, meet_slice (by show B ≤ prev + k; omega) hhi, fun e he => List.mem_of_mem_drop he, by show (ss.drop k).length ≤ _; rw [List.length_drop]; omega⟩
        show termAt B T (nowL B (prev + k) es (ss.drop k)) _ = _
        have hlen := nowL_len (B := B) (keep := prev + k) (es := es) (add := ss.drop k) hhi (by omega)
        rw [List.length_drop] at hlen
        rw [termAt_of hb (by omega)]
        have hget : ((nowL B (prev + k) es (ss.drop k)).getD (prev + i + 1 - B - 1) (0, [])).1 = (ss.getD i (0, [])).1 := by
          unfold nowL
          by_cases hik : i < k
          · obtain ⟨q1, q2⟩ := meets_not (hall i hik) hb
            rw [← q2, List.getD_eq_getElem?_getD, List.getD_eq_getElem?_getD, List.getElem?_append_left (by rw [List.length_take]; omega), List.getElem?_take, if_pos (by omega), show prev + i + 1 - B - 1 = prev + i - B by omega]
          · rw [List.getD_eq_getElem?_getD, List.getD_eq_getElem?_getD, List.getElem?_append_right (by rw [List.length_take]; omega), List.length_take, List.getElem?_drop, show k + (prev + i + 1 - B - 1 - min (prev + k - B) es.length) = i by omega]
        rw [hget]
theorem meet_err {B T : Nat} {es : List Ent} {prev term : Nat} {ss : List Ent} :
    (meetR B T es prev term ss).2.2 ≠ 0 → ((meetR B T es prev term ss).2.2 = 240 ∨ (meetR B T es prev term ss).2.2 = 241) ∧ (meetR B T es prev term ss).1 = 0 ∧ (meetR B T es prev term ss).2.1 = [] := by
  unfold meetR
  split
  · intro _; exact ⟨.inl rfl, rfl, rfl⟩
  · split
    · intro _; exact ⟨.inr rfl, rfl, rfl⟩
    · split
      · intro h; exact absurd rfl h
      · intro h; exact absurd rfl h
end Go.Proofs.Yteellfgiejnigaa
