/- The law 'CrcSums': for every input it returns true, and its arguments read as before. No further condition. -/
import Derived.Test.YtjkldodlnpkdaaaRows
import Derived.Test.YtjkldodlnpkdaaaW13
import Derived.Test.YtjkldodlnpkdaaaRows2
import Derived.WalkKit
import Derived.ProofKit
import Derived.OpenShut
import Derived.ShutString
import Derived.ChangeOld
import Derived.Below
namespace Go.Proofs.Ytjkldodlnpkdaaa.crcSums
open Go.ChangeShapes Go.WideShapes Go.ChangeAt Go.RowKit
open Go.ChangeMaps (open_string shut_string)
set_option linter.unusedVariables false

theorem own : ownKnob Try.prog.godebug = none := by kernel_rfl
theorem laidOut : laidOutB Try.prog = true := by kernel_rfl

theorem walk (v : Value) (ls : List (List UInt8)) (w : World) (hr : RdBs w v ls) (hl : ∀ i, i < ls.length → (ls.getD i []).length ≤ 140737488351232) :
    Calls Try.prog 3 #[v] w fun e w' => e = .returned (.bool true) ∧ Below w.heap.size w w' := sums_w v ls w hr hl

set_option maxRecDepth 100000 in
theorem lifted (os : Os) (started : os.Started) (H : Type) (enc : TypeId × Value → H) :
    ReturnsInHanded {} Try.checked os 3 .any (Rows.crcSumsSpec.pre6 enc Try.prog Try.f3 Rows.crcSumsRow.domain false) (Rows.crcSumsSpec.post enc Try.prog Try.f3 false true false false) := by
  refine returnsInHanded_of_change_sized (C := Try.checked) own started (by kernel_rfl) Try.func3
    (ChangeSpec.witness6 (enc := enc) (C := Try.checked) false ⟨#[], #[.slice none 0 0], []⟩ 8 (by kernel_rfl) (by kernel_rfl) (by kernel_rfl) (by kernel_rfl)) ?_
  intro W base args ds gs before hval0 hW hcnd hsz _
  have hval : ∀ (j : Nat) t v, Try.f3.params[j]? = some t → args[j]? = some v → Value.okWide Try.prog W .any base t v := hval0
  have hW' := hW
  obtain ⟨p, q, hA0, hV, rfl, hfz, hnd⟩ := hW
  have hA : DataW.TrodAll enc Try.prog W 0 (fun _ => true) true Try.f3.params.toList args.toList ds p := hA0
  rw [Try.params3] at hA hval
  obtain ⟨v0, vs0, d0, ds0, p0, q0, hargs, rfl, rfl, h0, r0⟩ := trodAll_cons hA
  obtain ⟨rfl, rfl, rfl⟩ := trodAll_nil r0
  obtain rfl : args = #[v0] := by cases args; simp_all
  obtain ⟨rfl, rfl⟩ := trodVars_none hV
  obtain ⟨a0, len0, cap0, rfl⟩ := okWide_slice Try.underlying22 (hval 0 22 v0 rfl rfl)
  have k0 := h0
  have lt0 : ∀ x ∈ p0, x.block < W.heap.size := by obtain ⟨m, hm⟩ := k0; exact DataW.trod_lt m _ _ _ hm
  obtain ⟨ls, hrs, hll⟩ : ∃ ls : List (List UInt8), RdBs W (.slice a0 len0 cap0) ls ∧ ∀ i, i < ls.length → (ls.getD i []).length ≤ 140737488351232 := by
    obtain ⟨fuel, hf⟩ := h0
    rcases Go.Deep.open_int_rows Try.underlying22 Try.underlying23 Try.underlying5 (by kernel_rfl) (by kernel_rfl) hf with ⟨hcs, _⟩ | ⟨x, l, c, A, L, C, Z, hcs, _, hl, hm, hx, hrows⟩
    · simp [Value.cells] at hcs
      obtain ⟨rfl, rfl, rfl⟩ := hcs
      refine ⟨[], ⟨none, 0, [], rfl, ⟨fun _ => rfl, by decide, by decide, fun h => absurd rfl h⟩, rfl, fun i hi => ?_⟩, fun i hi => ?_⟩ <;> cases hi
    · simp [Value.cells] at hcs
      obtain ⟨rfl, rfl, rfl⟩ := hcs
      obtain ⟨ls, h1, h2, h3⟩ := RdBs_of_rows hl hm (fun r hr => by
        obtain ⟨g1, g2, g3, g4, g5, g6, g7⟩ := hrows r hr
        exact ⟨g1, g2, g3, g4, g5, g6, fun a' ha => (g7 a' ha).2⟩)
      refine ⟨ls, h2, fun i hi => ?_⟩
      rw [h1] at hi
      rw [h3 i hi]
      simp only [Prod.mk.injEq] at hx
      obtain ⟨rfl, -⟩ := hx
      obtain ⟨g1, g2, g3, g4, g5, g6, g7⟩ := hrows i (by omega)
      cases hA : A i with
      | none => have := g6 hA; omega
      | some y =>
        have := sized_inner (j := 0) (t := 22) (e := 23) (q := 5) hsz rfl rfl Try.underlying22 Try.underlying23 (es := lits .u8 ((Z i).take (L i))) (ss := lits .u8 ((Z i).drop (L i))) (List.mem_map.2 ⟨i, by simpa using hi, by simp [Go.Deep.intRow, hA]⟩)
        have hb : Try.checked.prog.bytesOf 5 = 1 := by kernel_rfl
        rw [hb] at this
        have hlen : (lits (H := H) .u8 ((Z i).take (L i))).length = L i := by simp [lits]; omega
        rw [hlen] at this
        have hrb : reachBytes = 140737488351232 := rfl
        omega
  clear hA0 hval0
  refine (walk _ ls W hrs hll).mono fun e W' ⟨he, bel⟩ => ?_
  subst he
  exact ⟨_, rfl, _, _, _, [], _, [], hW', trodAll_mk1 (shut_bool Try.underlying4 _), (trodAll_cons_mk (Below.trod laidOut (by kernel_rfl) (of_decide_eq_true (by kernel_rfl)) k0 bel lt0) trodAll_mk0), rfl, bel.frame _, fun h => by cases h⟩

theorem over : Rows.crcSumsRow.holds Try.pinned (OpenSpec.ofChange Rows.crcSumsSpec) :=
  OpenClaim.holds_of_wide 3 Try.f3 rfl rfl rfl rfl rfl rfl rfl ⟨rfl, rfl, rfl, rfl, rfl⟩ rfl rfl rfl rfl rfl (by kernel_rfl) Try.func3 (by kernel_rfl)
    (of_decide_eq_true (by kernel_rfl)) (by unfold Func.isWrapper; first | (rw [if_pos (by decide +kernel)]; kernel_rfl) | (rw [if_neg (by decide +kernel)]; exact ⟨rfl, rfl⟩))
    (fun os started H enc _ => lifted os started H enc)

theorem proved : Rows.CrcSumsSaid := over
#print axioms proved
end Go.Proofs.Ytjkldodlnpkdaaa.crcSums
