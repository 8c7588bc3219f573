/- The law WordsReplies: its walks joined. -/
import Derived.Test.YtoflehlkacofjaaQdC10
namespace Go.Proofs.Ytoflehlkacofjaa
open Go.ChangeShapes Go.WideShapes Go.ChangeAt Go.RowKit
set_option linter.unusedVariables false
theorem Rp.most_of {x : Rp} (h : x.large = false) : x.trades.length ≤ 5000 ∧ x.gone.length ≤ 5000 ∧ x.accounts.length ≤ 5000 := by
  unfold Rp.large Rp.most at h
  simp only [Bool.or_eq_false_iff, decide_eq_false_iff_not] at h
  omega
theorem Rp.form_len {x : Rp} (hx : x.ok) (hm : x.mayB = true) : x.form.length ≤ 300000 := by
  obtain ⟨m1, m2, m3, m4, m5⟩ := mayR_open hm
  unfold Rp.form natsT natsN
  by_cases h0 : x.errno = 0
  · rw [if_pos h0]
    have n3 : (Form.nat x.trades.length).length ≤ 10 := Form.nat_len10 (by omega)
    have n4 : (Form.nat x.gone.length).length ≤ 10 := Form.nat_len10 (by omega)
    have n5 : (Form.nat x.accounts.length).length ≤ 10 := Form.nat_len10 (by omega)
    have n0 : (Form.nat 0).length ≤ 10 := Form.nat_len10 (by decide)
    have n1 := Form.nat_len10 hx.number
    have n2 := Form.nat_len10 (Form.fold_lt hx.filled.1 hx.filled.2)
    have n2' := Form.nat_len10 (Form.fold_lt hx.left.1 hx.left.2)
    have t1 := flatT_len x.trades hx.trades
    have t2 := flatN_len x.gone hx.gone
    have t3 := flatN_len x.accounts (fun n hn => by have := hx.accounts n hn; omega)
    simp only [List.length_append]; omega
  · rw [if_neg h0]
    have : (Form.nat x.errno.toNat).length ≤ 10 := Form.nat_len10 (by omega)
    omega
theorem bool_same {r q : Bool} {p : Prop} (h : r = true ↔ p) (k : q = true ↔ p) : r = q := by cases r <;> cases q <;> simp_all
theorem repl_w (x y : Rp) (tv gv av tv2 gv2 av2 : Value) (w : World) (h1 : RpA w tv gv av x) (h2 : RpA w tv2 gv2 av2 y) :
    Calls Try.prog 4 #[.agg (rpc x tv gv av), .agg (rpc y tv2 gv2 av2)] w fun e w' => e = .returned (.bool true) ∧ Below w.heap.size w w' := by
  have hsm : ∃ sr : Bool, (sr = true ↔ x = y) := by
    by_cases e : x = y
    · exact ⟨true, fun _ => e, fun _ => rfl⟩
    · exact ⟨false, (fun h => by cases h), fun h => absurd h e⟩
  obtain ⟨q, hq⟩ := hsm
  have hok := h1.ok
  have HC : RlC w x (rpc x tv gv av) (rpc y tv2 gv2 av2) x.large y.large x.mayB q x.bytes := by
    refine ⟨fun W k => large8_w x tv gv av W (h1.keeps k), fun W k => large8_w y tv2 gv2 av2 W (h2.keeps k), fun hl W k => ?_, fun W ci hp => ?_, fun W ci hp => ?_, fun W k => refmay15_w x tv gv av W (h1.keeps k), fun W k => ?_, fun W k => ?_, fun W ci k hp => ?_, fun W ci k hp => ?_, fun hm W v hv => ?_, fun hm W k => ?_, rfl, rfl⟩
    · obtain ⟨l1, l2, l3⟩ := Rp.most_of hl
      exact (copy13_w x tv gv av W (h1.keeps k) l1 l2 l3).mono fun e w' ⟨⟨a, b, c, he, hr⟩, hB⟩ => ⟨⟨_, he, a, b, c, rfl, hr⟩, hB⟩
    · obtain ⟨a, b, c, rfl, hr⟩ := hp
      exact (reply_w x a b c W hr).mono fun e w' ⟨⟨p, n, c, he, hn, ho⟩, hB⟩ => ⟨⟨p, n, c, he, (fun hm => by rw [hn]; unfold Rp.bytes; rw [hm]; rfl), ho.rd⟩, hB⟩
    · obtain ⟨a, b, c, rfl, hr⟩ := hp
      exact mayR14_w x a b c W hr
    · exact (same12_w x y _ _ _ _ _ _ W (h1.keeps k) (h2.keeps k)).mono fun e w' ⟨⟨r, he, hr⟩, hB⟩ => ⟨by rw [he, bool_same hr hq], hB⟩
    · exact (refsame16_w x y _ _ _ _ _ _ W (h1.keeps k) (h2.keeps k)).mono fun e w' ⟨⟨r, he, hr⟩, hB⟩ => ⟨by rw [he, bool_same hr hq], hB⟩
    · obtain ⟨a, b, c, rfl, hr⟩ := hp
      exact (same12_w x x _ _ _ _ _ _ W hr (h1.keeps k)).mono fun e w' ⟨⟨r, he, hr⟩, hB⟩ => ⟨by rw [he, hr.2 rfl], hB⟩
    · obtain ⟨a, b, c, rfl, hr⟩ := hp
      exact (refsame16_w x x _ _ _ _ _ _ W hr (h1.keeps k)).mono fun e w' ⟨⟨r, he, hr⟩, hB⟩ => ⟨by rw [he, hr.2 rfl], hB⟩
    · have hbx : x.bytes = x.form := by unfold Rp.bytes; rw [if_pos hm]
      rw [hbx] at hv
      have hl := Rp.form_len hok hm
      refine (read17_w v x.form W hv (by omega)).mono fun e w' ⟨hY, hB⟩ => ?_
      rcases hY with ⟨⟨y', a, b, c, he, hr, h3, h4, h5⟩⟩ | ⟨he, hno⟩
      · have : y' = x := Rp.form_inj h4 hm h5
        subst this
        exact ⟨⟨_, he, a, b, c, rfl, hr⟩, hB⟩
      · exact absurd ⟨hok, hm, rfl⟩ (hno x)
    · have hbx : x.bytes = x.form := by unfold Rp.bytes; rw [if_pos hm]
      rw [hbx]
      exact refreply18_w x tv gv av W (h1.keeps k) hm
  cases hl1 : x.large with
  | true => rw [hl1] at HC; exact replA_w w x _ _ _ _ _ _ HC
  | false =>
    cases hl2 : y.large with
    | true => rw [hl1, hl2] at HC; exact replB_w w x _ _ _ _ _ HC
    | false =>
      rw [hl1, hl2] at HC
      cases hm : x.mayB <;> cases q <;> rw [hm] at HC
      · exact replC_false_false_w w x _ _ _ HC
      · exact replC_false_true_w w x _ _ _ HC
      · exact replC_true_false_w w x _ _ _ HC
      · exact replC_true_true_w w x _ _ _ HC
end Go.Proofs.Ytoflehlkacofjaa
