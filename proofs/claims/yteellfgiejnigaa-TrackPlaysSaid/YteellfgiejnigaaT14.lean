/- Walks of may and Cut. -/
import Derived.Test.YteellfgiejnigaaT13
namespace Go.Proofs.Yteellfgiejnigaa
open Go.ChangeShapes Go.WideShapes Go.ChangeAt Go.RowKit
set_option linter.unusedVariables false

def mayI (B n i : Nat) : Bool := decide (B ≤ i) && decide (i ≤ B + n)
def mayE (B n i : Nat) : Int := if mayI B n i then 0 else 2
set_option maxRecDepth 100000 in
theorem may_w (S : Foot) (g B T i : Nat) (v : Value) (es : List Ent) (w : World) (h : TkAt w S g B T v es) :
    Calls Try.prog 79 #[.pointer (some ⟨g, 0, none⟩), .int .u64 (i : Int)] w fun r w' => r = .returned (.int .i64 (mayE B es.length i)) ∧ Below w.heap.size w w' := by
  have Hlast := Lib.hid (last_w S g B T v es w h)
  have c0 := h.c0
  by_cases h1 : i < B
  · have e1 : decide (i < B) = true := by simp [h1]
    have Hf := Lib.hid (show mayE B es.length i = 2 by unfold mayE mayI; rw [if_neg (by simp; omega)])
    clear h Hlast
    go_enter Try.func79, Try.ntmps79
    go_wp2
    go_ret
    exact ⟨by rw [Hf.out]; rfl, Below.refl _ _⟩
  · have e1 : decide (i < B) = false := by simp; omega
    by_cases h2 : B + es.length < i
    · have e2 : decide (B + es.length < i) = true := by simp [h2]
      have Hf := Lib.hid (show mayE B es.length i = 2 by unfold mayE mayI; rw [if_neg (by simp; omega)])
      generalize B + es.length = L at *
      clear h
      go_enter Try.func79, Try.ntmps79
      go_wp2_with (go_at_call 76; refine (Hlast.out).mono ?_; rintro r w1 ⟨rfl, hB⟩; have HB := Lib.hid hB; clear hB)
      go_ret
      exact ⟨by rw [Hf.out]; rfl, HB.out⟩
    · have e2 : decide (B + es.length < i) = false := by simp; omega
      have Hf := Lib.hid (show mayE B es.length i = 0 by unfold mayE mayI; rw [if_pos (by simp; omega)])
      generalize B + es.length = L at *
      clear h
      go_enter Try.func79, Try.ntmps79
      go_wp2_with (go_at_call 76; refine (Hlast.out).mono ?_; rintro r w1 ⟨rfl, hB⟩; have HB := Lib.hid hB; clear hB)
      go_ret
      exact ⟨by rw [Hf.out]; rfl, HB.out⟩
theorem run_slice_hm_u (t e : TypeId) (ht : Try.prog.underlying t = some (.slice e)) (sz : Nat) (hsz : (Try.prog.info? e).map (·.size) = some sz) (p : Option Addr) (len cap : Nat) (n : Nat) (hn : n ≤ cap) (w : World) :
    (Instr.sliceAt t (.slice p len cap) none (some (.int .u64 (n : Int))) (some (.int .u64 (n : Int)))).run Try.prog w = .ok (.slice p n n) w := by
  obtain ⟨i, hi, hsi⟩ := Option.map_eq_some_iff.1 hsz
  simp [Instr.sliceAt, Instr.slice, Instr.sliceBounds, Instr.sliceBound, asIntOf, Sem.run_bind, run_underlying ht, sizeOf, typeInfo, hi, hn, Addr_add_zero]
/-- The row's beginning, with no room behind it. -/
theorem EsG.cut {w : World} {S : Foot} {e : TypeId} {p : Option Addr} {m c : Nat} {es : List Ent} (h : EsG w S e (.slice p m c) es) {n : Nat} (hn : n ≤ es.length) : EsG w S e (.slice p n n) (es.take n) := by
  rcases h with ⟨h, rfl⟩ | ⟨g, cap, cur, h, hg, hh, h1, h2, h3, h4⟩
  · cases h
    have : n = 0 := by simpa using hn
    subst this
    exact .inl ⟨rfl, rfl⟩
  · cases h
    have hl : (es.take n).length = n := by rw [List.length_take]; omega
    refine .inr ⟨g, n, cur, by rw [hl], hg, hh, by rw [hl]; exact Nat.le_refl _, by omega, by omega, ?_⟩
    have := h4.take n
    rw [List.take_take, Nat.min_eq_left (by omega)] at this
    rw [hl]; exact this
set_option maxRecDepth 100000 in
theorem cut_no_w (S : Foot) (g B T i : Nat) (v : Value) (es : List Ent) (w : World) (h : TkAt w S g B T v es) (hi : mayI B es.length i = false) :
    Calls Try.prog 26 #[.pointer (some ⟨g, 0, none⟩), .int .u64 (i : Int)] w fun r w' => r = .returned (.int .i64 2) ∧ Below w.heap.size w w' := by
  have HM := Lib.hid (may_w S g B T i v es w h)
  unfold mayE at HM
  rw [hi] at HM
  simp only [Bool.false_eq_true, if_false] at HM
  clear h hi
  go_enter Try.func26, Try.ntmps26
  go_wp2_with (go_at_call 79; refine (HM.out).mono ?_; rintro r w1 ⟨rfl, hB⟩; have HB := Lib.hid hB; clear hB)
  go_ret
  exact ⟨rfl, HB.out⟩
set_option maxRecDepth 100000 in
theorem cut_ok_w (S : Foot) (g B T i : Nat) (v : Value) (es : List Ent) (w : World) (h : TkAt w S g B T v es) (hi : mayI B es.length i = true) :
    Calls Try.prog 26 #[.pointer (some ⟨g, 0, none⟩), .int .u64 (i : Int)] w fun r w' => r = .returned (.int .i64 0) ∧ (∃ v', TkAt w' S g B T v' (es.take (i - B))) ∧ Touch S w w' := by
  have HM := Lib.hid (may_w S g B T i v es w h)
  unfold mayE at HM
  rw [hi] at HM
  simp only [if_true] at HM
  have H := Lib.hid h
  obtain ⟨p, c, rfl⟩ := h.own.form
  have hcap : es.length ≤ c := by obtain ⟨p, c', xs, e, q, _⟩ := h.own.rd; cases e; exact q
  have hin : B ≤ i ∧ i ≤ B + es.length := by unfold mayI at hi; simpa using hi
  obtain ⟨n, hn⟩ : ∃ n, n = i - B := ⟨_, rfl⟩
  have hfit := h.fits
  have e1 : IntKind.u64.wrap ((i : Int) - (B : Int)) = (n : Int) := by rw [IntWalk.u64_in _ (by omega)]; omega
  have hsl := fun x => run_slice_hm_u 28 53 Try.underlying28 2 (by kernel_rfl) p es.length c n (by omega) x
  have Hn := Lib.hid (And.intro hn (show n ≤ es.length by omega))
  clear h hi hin hcap hn hfit
  go_enter Try.func26, Try.ntmps26
  go_wp2_with (go_at_call 79; refine (HM.out).mono ?_; rintro r w1 ⟨rfl, hB⟩; have H1 := Lib.hid (H.out.keeps hB.block); have HB := Lib.hid hB; have c0 := H1.out.c0; have c2 := H1.out.c2; have f2 := H1.out.frozen 2; clear hB)
  go_ret
  refine ⟨rfl, ⟨.slice p n n, ?_⟩, ?_⟩
  · rw [← Hn.out.1]; exact H1.out.put H1.out.foot (H1.out.own.cut Hn.out.2) (by have := H1.out.fits; rw [List.length_take]; omega)
  · exact (Touch.of_below HB.out).trans (Touch.of_grownBy (S := S) (Lib.grownBy_setCell w1 g 2 (.slice p n n)) (fun b e => by cases e; exact H1.out.foot)) (fun b _ e => e)
end Go.Proofs.Yteellfgiejnigaa
