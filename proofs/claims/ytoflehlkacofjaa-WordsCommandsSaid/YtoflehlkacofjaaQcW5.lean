/- Walks of the reader: Nat, Done; known. -/
import Derived.Test.YtoflehlkacofjaaQcW4
namespace Go.Proofs.Ytoflehlkacofjaa
open Go.ChangeShapes Go.WideShapes Go.ChangeAt Go.RowKit
set_option linter.unusedVariables false
set_option maxRecDepth 100000 in
theorem rnat_w (g : Nat) (v : Value) (b : List UInt8) (a : Nat) (e : Int) (w : World) (h : Rdr w g v a e) (hb : RdB w v b) (ha : a ≤ b.length) (hl : b.length ≤ 1000000) :
    Calls Try.prog 43 #[.pointer (some ⟨g, 0, none⟩)] w fun r w' => ∃ n a' : Nat, ∃ e' : Int, Form.small b a e 18446744073709551615 = (n, a', e') ∧ r = .returned (.int .u64 (n : Int)) ∧ Moved w w' g v a' e' := by
  have H := Lib.hid (small_w g v b a e 18446744073709551615 w h hb ha hl (by decide))
  clear h
  go_enter Try.func43, Try.ntmps43
  go_wp2_with (go_at_call 42; refine (H.out).mono ?_; rintro r w1 ⟨n, a', e', h1, rfl, h2⟩; have Hfin := Lib.hid (And.intro h1 h2); clear h1 h2)
  go_ret
  exact ⟨n, a', e', Hfin.out.1, rfl, Hfin.out.2⟩

set_option maxRecDepth 100000 in
theorem done_w (g : Nat) (v : Value) (b : List UInt8) (a : Nat) (e : Int) (w : World) (h : Rdr w g v a e) (hb : RdB w v b) (ha : a ≤ b.length) :
    Calls Try.prog 50 #[.pointer (some ⟨g, 0, none⟩)] w fun r w' => r = .returned (.int .i64 (Form.done b.length a e)) ∧ RegT.Same w w' := by
  obtain ⟨p, c, rfl, hp⟩ := hb
  have hc0 := h.cell0
  have hc1 := h.cell1
  have hc2 := h.cell2
  clear h hp
  by_cases h0 : e = 0
  · subst h0
    by_cases h1 : a < b.length
    · have hd : decide ((a : Int) < (b.length : Int)) = true := by simp; omega
      go_enter Try.func50, Try.ntmps50
      go_wp2
      go_quiet (fail)
      go_wp2
      go_ret
      refine ⟨?_, ⟨rfl, rfl, rfl, rfl⟩⟩
      unfold Form.done; rw [if_pos ⟨rfl, h1⟩]; rfl
    · have hd : decide ((a : Int) < (b.length : Int)) = false := by simp; omega
      go_enter Try.func50, Try.ntmps50
      go_wp2
      go_quiet (fail)
      go_wp2
      go_ret
      refine ⟨?_, ⟨rfl, rfl, rfl, rfl⟩⟩
      unfold Form.done; rw [if_neg (fun h => h1 h.2)]; rfl
  · have hd : decide (e = 0) = false := by simp [h0]
    have hd' : (e == 0) = false := by simp [h0]
    have H0 := Lib.hid h0
    clear h0
    go_enter Try.func50, Try.ntmps50
    go_wp2
    go_quiet (fail)
    go_wp2
    go_ret
    refine ⟨?_, ⟨rfl, rfl, rfl, rfl⟩⟩
    unfold Form.done; rw [if_neg (fun h => H0.out h.1)]; rfl

end Go.Proofs.Ytoflehlkacofjaa
