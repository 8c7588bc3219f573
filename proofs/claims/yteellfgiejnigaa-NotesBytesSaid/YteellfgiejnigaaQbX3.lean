/- The document's May: its walks joined. -/
import Derived.Test.YteellfgiejnigaaQbX2
namespace Go.Proofs.Yteellfgiejnigaa
open Go.ChangeShapes Go.WideShapes Go.ChangeAt Go.RowKit
set_option linter.unusedVariables false
theorem rmay_w (x : Nt) (lv dv : Value) (S : Foot) (w : World) (h : NtA w S lv dv x) (hn : x.list.length ≤ 1000000) : Calls Try.prog 47 #[ntv x lv dv] w fun e w' => e = .returned (.bool (mayN x)) ∧ Below w.heap.size w w' := by
  have no : ∀ {P : Prop}, (¬ (1 ≤ x.kind ∧ x.kind ≤ 7 ∧ sameN x (bareN x) = true ∧ x.index ≤ 4611686018427387904 ∧ x.commit ≤ 4611686018427387904 ∧ x.list.length ≤ 16 ∧ x.data.length ≤ 524288 ∧ anyLong x.list = false)) → mayN x = false := fun {_} hq => by
    cases hm : mayN x with
    | false => rfl
    | true => exact absurd ((mayN_ref x).1 hm) hq
  have hb : 1 ≤ x.kind → x.kind ≤ 7 → ∀ W, Keeps w W → Calls Try.prog 94 #[ntv x lv dv] W fun e w' => e = .returned (.agg (bareC x lv dv)) ∧ Below W.heap.size W w' := fun h1 h7 W k => bare_w x lv dv S W (h.keeps k) h1 h7
  have hs : ∀ W, Keeps w W → Calls Try.prog 20 #[ntv x lv dv, .agg (bareC x lv dv)] W fun e w' => e = .returned (.bool (sameN x (bareN x))) ∧ Below W.heap.size W w' := fun W k => by
    rw [bare_nt]
    exact rnoteSame_w x (bareN x) _ _ _ _ S S W (h.keeps k) (bare_at (h.keeps k)) hn
  have hl := h.l
  obtain ⟨⟨pl, cl, rfl⟩, ⟨pd, cd, rfl⟩⟩ := h.forms
  have hq := mayN_ref x
  generalize sameN x (bareN x) = sm at *
  generalize bareC x (.slice pl x.list.length cl) (.slice pd x.data.length cd) = bc at *
  obtain ⟨k, t, r, i, a, c, y, L, D⟩ := x
  unfold ntv at *
  dsimp only at *
  by_cases g0 : k < 1
  · rw [no (P := True) (by omega)]; exact rmay_0_w k t r i a c y pl pd cl cd L D bc w g0
  by_cases g1 : 7 < k
  · rw [no (P := True) (by omega)]; exact rmay_1_w k t r i a c y pl pd cl cd L D bc w g0 g1
  have hb' := hb (by omega) (by omega)
  cases sm with
  | false => rw [no (P := True) (by rintro ⟨_, _, e, _⟩; cases e)]; exact rmay_2_w k t r i a c y pl pd cl cd L D bc w g0 g1 hb' hs
  | true =>
    by_cases g3 : 4611686018427387904 < i
    · rw [no (P := True) (by omega)]; exact rmay_3_w k t r i a c y pl pd cl cd L D bc w g0 g1 g3 hb' hs
    by_cases g4 : 4611686018427387904 < c
    · rw [no (P := True) (by omega)]; exact rmay_4_w k t r i a c y pl pd cl cd L D bc w g0 g1 g3 g4 hb' hs
    by_cases g5 : 16 < L.length
    · rw [no (P := True) (by omega)]; exact rmay_5_w k t r i a c y pl pd cl cd L D bc w g0 g1 g3 g4 g5 hb' hs
    by_cases g6 : 524288 < D.length
    · rw [no (P := True) (by omega)]; exact rmay_6_w k t r i a c y pl pd cl cd L D bc w g0 g1 g3 g4 g5 g6 hb' hs
    have hfin : mayN ⟨k, t, r, i, a, c, y, L, D⟩ = !(anyLong L) := by
      cases hal : anyLong L with
      | true => exact no (P := True) (by rintro ⟨_, _, _, _, _, _, _, e⟩; rw [hal] at e; cases e)
      | false => exact hq.2 ⟨by omega, by omega, rfl, by omega, by omega, by omega, by omega, hal⟩
    rw [hfin]
    exact rmay_7_w k t r i a c y pl pd cl cd L D bc w g0 g1 g3 g4 g5 g6 hb' hs S hl hn
end Go.Proofs.Yteellfgiejnigaa
