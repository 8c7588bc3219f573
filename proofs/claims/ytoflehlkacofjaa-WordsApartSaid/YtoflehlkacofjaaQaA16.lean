/- The law WordsApart: its walks joined. -/
import Derived.Test.YtoflehlkacofjaaQaA15
namespace Go.Proofs.Ytoflehlkacofjaa
open Go.ChangeShapes Go.WideShapes Go.ChangeAt Go.RowKit
set_option linter.unusedVariables false
theorem apart_w (c d : Cm) (x y : Rp) (tv gv av tv2 gv2 av2 : Value) (w : World) (hc : c.ok) (hd : d.ok) (h1 : RpA w tv gv av x) (h2 : RpA w tv2 gv2 av2 y) :
    Calls Try.prog 3 #[.agg c.cells, .agg d.cells, .agg (rpc x tv gv av), .agg (rpc y tv2 gv2 av2)] w fun e w' => e = .returned (.bool true) ∧ Below w.heap.size w w' := by
  have hsm : ∃ sr : Bool, (sr = true ↔ x = y) := by
    by_cases e : x = y
    · exact ⟨true, fun _ => e, fun _ => rfl⟩
    · exact ⟨false, (fun h => by cases h), fun h => absurd h e⟩
  obtain ⟨sr, hsr⟩ := hsm
  have HC : ApC w c.cells d.cells (rpc x tv gv av) (rpc y tv2 gv2 av2) x.large y.large c.err d.err x.err y.err c.bytes d.bytes x.bytes y.bytes (c.same d) sr := by
    refine ⟨fun W => ?_, fun W => ?_, fun W k => large8_w x tv gv av W (h1.keeps k), fun W k => large8_w y tv2 gv2 av2 W (h2.keeps k), fun W k => ?_, fun W k => ?_, fun W k => ?_, fun W => eql30 c d W, rfl, rfl, rfl, rfl⟩
    · exact (cmd_w c W hc).mono fun e w' ⟨⟨p, n, c, a, _, b⟩, hB⟩ => ⟨⟨p, n, c, a, b.rd⟩, hB⟩
    · exact (cmd_w d W hd).mono fun e w' ⟨⟨p, n, c, a, _, b⟩, hB⟩ => ⟨⟨p, n, c, a, b.rd⟩, hB⟩
    · exact (reply_w x tv gv av W (h1.keeps k)).mono fun e w' ⟨⟨p, n, c, a, _, b⟩, hB⟩ => ⟨⟨p, n, c, a, b.rd⟩, hB⟩
    · exact (reply_w y tv2 gv2 av2 W (h2.keeps k)).mono fun e w' ⟨⟨p, n, c, a, _, b⟩, hB⟩ => ⟨⟨p, n, c, a, b.rd⟩, hB⟩
    · refine (same12_w x y tv gv av tv2 gv2 av2 W (h1.keeps k) (h2.keeps k)).mono fun e w' ⟨⟨r, he, hr⟩, hB⟩ => ⟨?_, hB⟩
      have : r = sr := by cases r <;> cases sr <;> simp_all
      rw [he, this]
  cases hl1 : x.large with
  | true => rw [hl1] at HC; exact apartA_w w _ _ _ _ _ _ _ _ _ _ _ _ _ _ _ HC
  | false =>
    cases hl2 : y.large with
    | true => rw [hl1, hl2] at HC; exact apartB_w w _ _ _ _ true _ _ _ _ _ _ _ _ _ _ HC
    | false =>
      rw [hl1, hl2] at HC
      have hCi : (c.err ≠ 0) ∨ (c.err = 0 ∧ d.err ≠ 0) ∨ (c.err = 0 ∧ d.err = 0 ∧ c.bytes = d.bytes ∧ c.same d = true) ∨ (c.err = 0 ∧ d.err = 0 ∧ c.bytes ≠ d.bytes ∧ c.same d = false) := by
        unfold Cm.err Cm.bytes
        cases m1 : c.mayB with
        | false => exact .inl (by decide)
        | true =>
          cases m2 : d.mayB with
          | false => exact .inr (.inl ⟨rfl, by decide⟩)
          | true =>
            simp only [if_true]
            cases hs : c.same d with
            | true => exact .inr (.inr (.inl ⟨trivial, trivial, Cm.form_cells ((Cm.same_iff c d).1 hs), rfl⟩))
            | false => exact .inr (.inr (.inr ⟨trivial, trivial, (fun e => by rw [(Cm.same_iff c d).2 (Cm.form_inj hc hd m1 m2 e)] at hs; cases hs), rfl⟩))
      have hRj : (x.err ≠ 0) ∨ (x.err = 0 ∧ y.err ≠ 0) ∨ (x.err = 0 ∧ y.err = 0 ∧ x.bytes = y.bytes ∧ sr = true) ∨ (x.err = 0 ∧ y.err = 0 ∧ x.bytes ≠ y.bytes ∧ sr = false) := by
        unfold Rp.err Rp.bytes
        cases m1 : x.mayB with
        | false => exact .inl (by decide)
        | true =>
          cases m2 : y.mayB with
          | false => exact .inr (.inl ⟨rfl, by decide⟩)
          | true =>
            simp only [if_true]
            cases sr with
            | true => exact .inr (.inr (.inl ⟨trivial, trivial, by rw [hsr.1 rfl], rfl⟩))
            | false => exact .inr (.inr (.inr ⟨trivial, trivial, (fun e => by have := hsr.2 (Rp.form_inj m1 m2 e); cases this), rfl⟩))
      clear hsr
      generalize c.err = ex at *
      generalize d.err = ey at *
      generalize x.err = er at *
      generalize y.err = es at *
      generalize c.same d = sc at *
      rcases hCi with hi | ⟨rfl, hi⟩ | ⟨rfl, rfl, hi, rfl⟩ | ⟨rfl, rfl, hi, rfl⟩ <;> rcases hRj with hj | ⟨rfl, hj⟩ | ⟨rfl, rfl, hj, rfl⟩ | ⟨rfl, rfl, hj, rfl⟩
      · exact apart_00_w w _ _ _ _ ex ey er es _ _ _ _ sc sr hi hj HC
      · exact apart_01_w w _ _ _ _ ex ey 0 es _ _ _ _ sc sr hi hj HC
      · exact apart_02_w w _ _ _ _ ex ey 0 0 _ _ _ _ sc true hi hj HC
      · exact apart_03_w w _ _ _ _ ex ey 0 0 _ _ _ _ sc false hi hj HC
      · exact apart_10_w w _ _ _ _ 0 ey er es _ _ _ _ sc sr hi hj HC
      · exact apart_11_w w _ _ _ _ 0 ey 0 es _ _ _ _ sc sr hi hj HC
      · exact apart_12_w w _ _ _ _ 0 ey 0 0 _ _ _ _ sc true hi hj HC
      · exact apart_13_w w _ _ _ _ 0 ey 0 0 _ _ _ _ sc false hi hj HC
      · exact apart_20_w w _ _ _ _ 0 0 er es _ _ _ _ true sr hi hj HC
      · exact apart_21_w w _ _ _ _ 0 0 0 es _ _ _ _ true sr hi hj HC
      · exact apart_22_w w _ _ _ _ 0 0 0 0 _ _ _ _ true true hi hj HC
      · exact apart_23_w w _ _ _ _ 0 0 0 0 _ _ _ _ true false hi hj HC
      · exact apart_30_w w _ _ _ _ 0 0 er es _ _ _ _ false sr hi hj HC
      · exact apart_31_w w _ _ _ _ 0 0 0 es _ _ _ _ false sr hi hj HC
      · exact apart_32_w w _ _ _ _ 0 0 0 0 _ _ _ _ false true hi hj HC
      · exact apart_33_w w _ _ _ _ 0 0 0 0 _ _ _ _ false false hi hj HC
end Go.Proofs.Ytoflehlkacofjaa
