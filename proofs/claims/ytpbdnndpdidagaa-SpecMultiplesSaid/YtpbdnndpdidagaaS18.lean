/- The law of multiples. -/
import Derived.Test.YtpbdnndpdidagaaS17
namespace Go.Proofs.Ytpbdnndpdidagaa
open Go.ChangeShapes Go.WideShapes Go.ChangeAt Go.RowKit
set_option linter.unusedVariables false

theorem multiples_emod (a b t : Int) (ha : a % t = 0) (hb : b % t = 0) : (a + b) % t = 0 ∧ (a - b) % t = 0 := by
  have h1 := Int.dvd_of_emod_eq_zero ha
  have h2 := Int.dvd_of_emod_eq_zero hb
  exact ⟨Int.emod_eq_zero_of_dvd (Int.dvd_add h1 h2), Int.emod_eq_zero_of_dvd (Int.dvd_sub h1 h2)⟩
theorem Sp.price_add (s : Sp) (a b : Int) (ha : s.isPrice a = true) (hb : s.isPrice b = true) : s.isPrice (a + b) = decide (a + b ≤ 10000000) ∧ s.isPrice (a - b) = decide (b < a) := by
  unfold isPrice Form.priceB Form.inB at *
  simp only [Bool.and_eq_true, decide_eq_true_eq] at ha hb
  obtain ⟨hm, ⟨ha1, ha2⟩, ha3⟩ := ha
  obtain ⟨-, ⟨hb1, hb2⟩, hb3⟩ := hb
  obtain ⟨h1, h2⟩ := multiples_emod a b s.tick ha3 hb3
  rw [hm, h1, h2]
  refine ⟨?_, ?_⟩
  · rw [Bool.eq_iff_iff]; simp; omega
  · rw [Bool.eq_iff_iff]; simp; omega
theorem Sp.qty_add (s : Sp) (a b : Int) (ha : s.isQty a = true) (hb : s.isQty b = true) : s.isQty (a + b) = decide (a + b ≤ 1000000) ∧ s.isQty (a - b) = decide (b < a) := by
  unfold isQty Form.inB at *
  simp only [Bool.and_eq_true, decide_eq_true_eq] at ha hb
  obtain ⟨hm, ⟨ha1, ha2⟩, ha3⟩ := ha
  obtain ⟨-, ⟨hb1, hb2⟩, hb3⟩ := hb
  obtain ⟨h1, h2⟩ := multiples_emod a b s.lot ha3 hb3
  rw [hm, h1, h2]
  refine ⟨?_, ?_⟩
  · rw [Bool.eq_iff_iff]; simp; omega
  · rw [Bool.eq_iff_iff]; simp; omega
end Go.Proofs.Ytpbdnndpdidagaa
