/- The calls of a script, as they come in. -/
import Derived.Test.YtpbdnndpdidagaaW19
import Derived.Test.YtpbdnndpdidagaaRows3
namespace Go.Proofs.Ytpbdnndpdidagaa
open Go.ChangeShapes Go.WideShapes Go.ChangeAt Go.RowKit Go.Deep
set_option linter.unusedVariables false

theorem list_of_fn {α : Type} [Inhabited α] (n : Nat) (p : Nat → α → Prop) (h : ∀ i, i < n → ∃ x, p i x) : ∃ l : List α, l.length = n ∧ ∀ i, i < n → p i (l.getD i default) := by
  obtain ⟨f, hf⟩ := choose_lt h
  refine ⟨(List.range n).map f, by simp, fun i hi => ?_⟩
  have : ((List.range n).map f).getD i default = f i := by
    rw [getD_of_lt _ _ _ (by simpa using hi)]; simp
  rw [this]; exact hf i hi

theorem RdAsk_of_trod {H : Type} {enc : TypeId × Value → H} {w : World} {base : Nat} {held : Bool} {d : DataW H} {p : List MemPlace} {a : Option Addr} {len cap : Nat}
    (h : DataW.Trod enc Try.prog w base (fun _ => true) held 49 (.slice a len cap) d p) : ∃ ls, RdAsk w (.slice a len cap) ls := by
  obtain ⟨h1, h2, h3, h4⟩ := open_structs (C := 2) Try.underlying49 Try.underlying54 (by kernel_rfl) ⟨_, Array.mem_of_getElem? (i := 0) rfl, rfl, by kernel_rfl⟩ (by decide) h
  have hmx : len ≤ 9223372036854775807 := by unfold maxLen at h2; omega
  rcases Nat.eq_zero_or_pos len with hz | hpos
  · subst hz
    exact ⟨[], a, cap, rfl, by decide, (fun x hx => by cases hx), fun hne => absurd rfl hne⟩
  · obtain ⟨b, off, rfl, hb, hc⟩ := h4 hpos
    obtain ⟨ls, hl, hp⟩ := list_of_fn len (fun i (x : Int × Int) => (w.cell? ⟨b, off + i * 2, none⟩ = some (.int .i64 x.1) ∧ w.cell? ⟨b, off + i * 2 + 1, none⟩ = some (.int .i64 x.2)) ∧ -9223372036854775808 ≤ x.2 ∧ x.2 ≤ 9223372036854775807) (fun i hi => by
      obtain ⟨u0, y0, n0, c0, t0⟩ := hc i hi _ (Array.mem_of_getElem? (i := 0) rfl) (by kernel_rfl) (by decide)
      obtain ⟨u1, y1, n1, c1, t1⟩ := hc i hi _ (Array.mem_of_getElem? (i := 1) rfl) (by kernel_rfl) (by decide)
      obtain ⟨z0, e0, _, w0⟩ := DataW.trod_int Try.underlying3 t0
      obtain ⟨z1, e1, _, w1⟩ := DataW.trod_int Try.underlying2 t1
      simp only [List.cons.injEq, and_true] at e0 e1
      subst e0
      subst e1
      exact ⟨(z0, z1), ⟨c0, c1⟩, by simpa [Lit.wf, IntKind.min, IntKind.max, IntKind.signed, IntKind.bits] using w1⟩)
    refine ⟨ls, some ⟨b, off, none⟩, cap, by rw [hl], by omega, fun x hx => ?_, fun _ => ⟨b, off, rfl, hb, fun i hi => (hp i (by omega)).1⟩⟩
    obtain ⟨i, hi, hx⟩ := List.getElem_of_mem hx
    have := (hp i (by omega)).2
    rw [getD_of_lt _ _ _ hi, hx] at this
    exact this
end Go.Proofs.Ytpbdnndpdidagaa
