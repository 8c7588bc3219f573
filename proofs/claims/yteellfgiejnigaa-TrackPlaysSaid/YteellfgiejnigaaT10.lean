/- A pair of numbers that came in, by value. -/
import Derived.Test.YteellfgiejnigaaT1
import Derived.Test.YteellfgiejnigaaRows4
import Derived.OpenShut
namespace Go.Proofs.Yteellfgiejnigaa
open Go.ChangeShapes Go.WideShapes Go.ChangeAt Go.RowKit Go.Deep
set_option linter.unusedVariables false

section
variable {H : Type} {enc : TypeId × Value → H} {w : World} {base : Nat} {spare : Nat → Bool} {held : Bool}
theorem wf_u64 {n : Int} (h : (Lit.int .u64 n).wf = true) : 0 ≤ n ∧ n < 18446744073709551616 := by
  have : 0 ≤ n ∧ n ≤ 18446744073709551615 := by simpa [Lit.wf, IntKind.min, IntKind.max, IntKind.signed, IntKind.bits] using h
  omega
theorem cell_of_take {cs : List Value} {off : Nat} {v : Value} (h : (cs.drop off).take 1 = [v]) : cs[off]? = some v := by
  have := congrArg (fun l => l[0]?) h
  simpa using this
set_option maxRecDepth 100000 in
theorem pair_of_trod {v : Value} {d : DataW H} {p : List MemPlace} {base' : Nat} (hk : Value.okWide Try.prog w .any base' 23 v) (h : DataW.Trod enc Try.prog w base (fun _ => true) held 23 v d p) :
    ∃ x : Nat × Nat, v = .agg #[.int .u64 (x.1 : Int), .int .u64 (x.2 : Int)] := by
  have hk' : ∃ cs, v = .agg cs ∧ cs.size = Try.prog.cellsOf 23 := by
    have hk2 := hk
    simp only [Value.okWide, Try.underlying23] at hk2
    obtain ⟨cs, h1, h2, _⟩ := hk2
    exact ⟨cs, h1, h2⟩
  obtain ⟨cs, rfl, hsz⟩ := hk'
  rw [show Try.prog.cellsOf 23 = 2 by kernel_rfl] at hsz
  obtain ⟨fuel, hf⟩ := h
  obtain ⟨xs, m, _, -, hlen, hxl, hx⟩ := DataW.trod_array Try.underlying23 hf
  obtain ⟨l⟩ := cs
  have hl : l.length = 2 := hsz
  have hcs : (Value.agg ⟨l⟩).cells.toList = l := rfl
  rw [hcs] at hx
  have c22 : Try.prog.cellsOf 22 = 1 := by kernel_rfl
  have get : ∀ i, i < 2 → ∃ n, l[i]? = some (.int .u64 n) ∧ (Lit.int .u64 n).wf = true := by
    intro i hi
    have h1 := (hx i hi).trans (List.getElem?_eq_getElem (show i < xs.length by omega))
    rw [c22, Nat.mul_one] at h1
    obtain ⟨n, h2, -, h3⟩ := DataW.trod_int Try.underlying22 h1
    exact ⟨n, cell_of_take h2, h3⟩
  obtain ⟨n0, q0, w0⟩ := get 0 (by decide)
  obtain ⟨n1, q1, w1⟩ := get 1 (by decide)
  obtain ⟨a, ha⟩ : ∃ a : Nat, n0 = (a : Int) := ⟨n0.toNat, by have := (wf_u64 w0).1; omega⟩
  obtain ⟨b, hb⟩ : ∃ b : Nat, n1 = (b : Int) := ⟨n1.toNat, by have := (wf_u64 w1).1; omega⟩
  subst ha hb
  refine ⟨(a, b), ?_⟩
  congr 1
  apply Array.ext'
  show l = [_, _]
  match l, hl, q0, q1 with
  | [x, y], _, q0, q1 => cases q0; cases q1; rfl
end
end Go.Proofs.Yteellfgiejnigaa
