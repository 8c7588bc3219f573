/- The law WordsOnly: its walks joined. -/
import Derived.Test.YtoflehlkacofjaaQeC12
namespace Go.Proofs.Ytoflehlkacofjaa
open Go.ChangeShapes Go.WideShapes Go.ChangeAt Go.RowKit
set_option linter.unusedVariables false
theorem Rp.bytes_of {x : Rp} (h : x.mayB = true) : x.bytes = x.form ∧ x.err = 0 := by unfold Rp.bytes Rp.err; rw [h]; exact ⟨rfl, rfl⟩
theorem only_w (v : Value) (b : List UInt8) (m : Nat) (w : World) (hv : RdB w v b) (hm : m < 256) : Calls Try.prog 7 #[v, .int .u8 (m : Int)] w fun e w' => e = .returned (.bool true) ∧ Below w.heap.size w w' := by
  obtain ⟨p, c, rfl⟩ := hv.form_
  by_cases hl : b.length ≤ 20000
  · have h21 : ∀ W v, RdB W v b → Calls Try.prog 21 #[v] W fun r w' => r = .returned (.tuple #[.agg (if Cm.rdOk b then (Cm.rd b).1.cells else zC), .int .i64 (if Cm.rdOk b then 0 else 5)]) ∧ Below W.heap.size W w' := fun W v hv => read21_w v b W hv (by omega)
    have hlm : (b ++ [UInt8.ofNat m]).length ≤ 1000000 := by simp; omega
    have key : ∀ (f : Bool) (x : Rp), (f = true → RpOf b x) → (f = false → RpNone b) → OnC b m (if Cm.rdOk b then (Cm.rd b).1.cells else zC) (Cm.rdOk b) f x := by
      intro f x hf hn
      refine ⟨h21, fun he W v hv => ?_, fun he W => ?_, fun hf' W v hv => ?_, fun hf' W v hv => ?_, fun hf' W v hv => ?_, fun hf' W cy hp => ?_, ?_, ?_⟩
      · obtain ⟨k1, k2⟩ := Cm.rd_good b he
        have h := read21_w v (b ++ [UInt8.ofNat m]) W hv hlm
        have hr := Cm.rdOk_more (Cm.rd b).1 (Cm.rd_ok b) k2 (UInt8.ofNat m)
        rw [k1] at hr
        refine h.mono fun e w' ⟨h1, h2⟩ => ⟨?_, h2⟩
        rw [hr] at h1
        exact h1
      · obtain ⟨k1, k2⟩ := Cm.rd_good b he
        rw [if_pos he]
        have h := cmd_yes_w (Cm.rd b).1 W (Cm.rd_ok b) k2
        rw [k1] at h
        exact h.mono fun e w' ⟨⟨p, n, c, h1, h2, h3⟩, h4⟩ => ⟨⟨p, n, c, h1, h3.rd⟩, h4⟩
      · obtain ⟨x1, x2, x3⟩ := hf hf'
        refine (read17_w v b W hv (by omega)).mono fun e w' ⟨hY, hB⟩ => ?_
        rcases hY with ⟨⟨y', a, b', c', he, hr, h3, h4, h5⟩⟩ | ⟨he, hno⟩
        · have : y' = x := Rp.form_inj h4 x2 (by rw [h5, x3])
          subst this
          exact ⟨⟨_, he, a, b', c', rfl, hr⟩, hB⟩
        · exact absurd ⟨x1, x2, x3⟩ (hno x)
      · refine (read17_w v b W hv (by omega)).mono fun e w' ⟨hY, hB⟩ => ?_
        rcases hY with ⟨⟨y', a, b', c', he, hr, h3⟩⟩ | ⟨he, hno⟩
        · exact absurd h3 (hn hf' y')
        · exact ⟨he, hB⟩
      · refine (read17_w v _ W hv hlm).mono fun e w' ⟨hY, hB⟩ => ?_
        rcases hY with ⟨⟨y', a, b', c', he, hr, h3⟩⟩ | ⟨he, hno⟩
        · exact absurd h3 (rp_more (hf hf') (UInt8.ofNat m) y')
        · exact ⟨he, hB⟩
      · obtain ⟨x1, x2, x3⟩ := hf hf'
        obtain ⟨a, b', c', rfl, hr⟩ := hp
        obtain ⟨e1, e2⟩ := Rp.bytes_of x2
        refine (reply_w x a b' c' W hr).mono fun e w' ⟨⟨p, n, c, h1, h2, h3⟩, h4⟩ => ⟨⟨p, n, c, ?_, ?_⟩, h4⟩
        · rw [h1, e2]
        · have := h3.rd
          rw [e1, x3] at this
          exact this
      · split <;> rfl
      · split
        · exact Cm.cells_one _
        · exact zC_one
    by_cases hx : ∃ x, RpOf b x
    · obtain ⟨x, hx⟩ := hx
      have HC := key true x (fun _ => hx) (fun h => by cases h)
      cases he : Cm.rdOk b with
      | true => rw [he] at HC; exact only_true_true_w w p c b m _ x hv hl hm HC
      | false => rw [he] at HC; exact only_false_true_w w p c b m _ x hv hl hm HC
    · have HC := key false Rp.zero (fun h => by cases h) (fun _ y hy => hx ⟨y, hy⟩)
      cases he : Cm.rdOk b with
      | true => rw [he] at HC; exact only_true_false_w w p c b m _ _ hv hl hm HC
      | false => rw [he] at HC; exact only_false_false_w w p c b m _ _ hv hl hm HC
  · exact only_long_w w p c b.length m (by omega)
end Go.Proofs.Ytoflehlkacofjaa
