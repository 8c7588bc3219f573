/- A region in which each of the two tracks is written by a call, in whatever order: what it leaves. -/
import Derived.Test.YteellfgiejnigaaT31
import Derived.Test.YteellfgiejnigaaT29
namespace Go.Proofs.Yteellfgiejnigaa
open Go.ChangeShapes Go.WideShapes Go.ChangeAt Go.RowKit
set_option linter.unusedVariables false

section
variable (w0 : World) (N : Nat) (oc : Array Value) (g r : Nat) (XX : Bool → Nat × Nat × List Ent) (X : Foot) (iv : Value) (ins : List Ent)
/-- The one side is done or not, the other one too. -/
def Jn (a c : Bool) (W : World) : Prop := ∃ S R v u, Mid w0 N oc W S R g r (XX a).1 (XX a).2.1 v (XX a).2.2 (XX c).1 (XX c).2.1 u (XX c).2.2 ∧ Side w0 N W S R X iv ins
def JR (x y : World) : Prop := ((∃ a c, Jn w0 N oc g r XX X iv ins a c x) → ∃ a c, Jn w0 N oc g r XX X iv ins a c y) ∧ ((∃ c, Jn w0 N oc g r XX X iv ins true c x) → ∃ c, Jn w0 N oc g r XX X iv ins true c y) ∧ ((∃ a, Jn w0 N oc g r XX X iv ins a true x) → ∃ a, Jn w0 N oc g r XX X iv ins a true y)
variable {w0 N oc g r XX X iv ins}
theorem Jn.grow {a c : Bool} {x y : World} (h : Jn w0 N oc g r XX X iv ins a c x) (hg : Below x.heap.size x y) : Jn w0 N oc g r XX X iv ins a c y := by
  obtain ⟨S, R, v, u, M, D⟩ := h
  exact ⟨S, R, v, u, M.keep hg, D.keep hg⟩
theorem JR.refl (x : World) : JR w0 N oc g r XX X iv ins x x := ⟨id, id, id⟩
theorem JR.trans (x y z : World) (h : JR w0 N oc g r XX X iv ins x y) (k : JR w0 N oc g r XX X iv ins y z) : JR w0 N oc g r XX X iv ins x z := ⟨fun e => k.1 (h.1 e), fun e => k.2.1 (h.2.1 e), fun e => k.2.2 (h.2.2 e)⟩
theorem JR.grow (x y : World) (hg : Below x.heap.size x y) : JR w0 N oc g r XX X iv ins x y :=
  ⟨fun ⟨a, c, h⟩ => ⟨a, c, h.grow hg⟩, fun ⟨c, h⟩ => ⟨c, h.grow hg⟩, fun ⟨a, h⟩ => ⟨a, h.grow hg⟩⟩
theorem Jn.cell {W : World} (h : ∃ a c, Jn w0 N oc g r XX X iv ins a c W) (j : Nat) : W.cell? ⟨N, j, none⟩ = oc[j]? := by
  obtain ⟨a, c, S, R, v, u, M, D⟩ := h
  exact M.oat j
theorem Jn.opT {W : World} (h : ∃ a c, Jn w0 N oc g r XX X iv ins a c W) {f : FuncId} {args : Array Value} {e0 : Value}
    (hc : ∀ (a : Bool) (S : Foot) (v : Value), TkAt W S g (XX a).1 (XX a).2.1 v (XX a).2.2 → Calls Try.prog f args W fun e w' => e = .returned e0 ∧ (∃ v', TkAt w' (fun b => S b ∨ W.heap.size ≤ b) g (XX true).1 (XX true).2.1 v' (XX true).2.2) ∧ Touch S W w') :
    Calls Try.prog f args W fun e w' => e = .returned e0 ∧ (∃ c, Jn w0 N oc g r XX X iv ins true c w') ∧ JR w0 N oc g r XX X iv ins W w' := by
  by_cases hd : ∃ a, Jn w0 N oc g r XX X iv ins a true W
  · obtain ⟨a, S, R, v, u, M, D⟩ := hd
    refine (hc a S v M.t).mono fun e w' ⟨he, ⟨v', ht⟩, hto⟩ => ?_
    have hj : Jn w0 N oc g r XX X iv ins true true w' := ⟨_, R, v', u, M.stepT ht hto, D.stepT hto⟩
    exact ⟨he, ⟨true, hj⟩, fun _ => ⟨true, true, hj⟩, fun _ => ⟨true, hj⟩, fun _ => ⟨true, hj⟩⟩
  · obtain ⟨a, c, S, R, v, u, M, D⟩ := h
    refine (hc a S v M.t).mono fun e w' ⟨he, ⟨v', ht⟩, hto⟩ => ?_
    have hj : Jn w0 N oc g r XX X iv ins true c w' := ⟨_, R, v', u, M.stepT ht hto, D.stepT hto⟩
    exact ⟨he, ⟨c, hj⟩, fun _ => ⟨true, c, hj⟩, fun _ => ⟨c, hj⟩, fun e => absurd e hd⟩
theorem Jn.opR {W : World} (h : ∃ a c, Jn w0 N oc g r XX X iv ins a c W) {f : FuncId} {args : Array Value} {e0 : Value}
    (hc : ∀ (a : Bool) (S : Foot) (v : Value), RkAt W S r (XX a).1 (XX a).2.1 v (XX a).2.2 → Calls Try.prog f args W fun e w' => e = .returned e0 ∧ (∃ v', RkAt w' (fun b => S b ∨ W.heap.size ≤ b) r (XX true).1 (XX true).2.1 v' (XX true).2.2) ∧ Touch S W w') :
    Calls Try.prog f args W fun e w' => e = .returned e0 ∧ (∃ a, Jn w0 N oc g r XX X iv ins a true w') ∧ JR w0 N oc g r XX X iv ins W w' := by
  by_cases hd : ∃ c, Jn w0 N oc g r XX X iv ins true c W
  · obtain ⟨c, S, R, v, u, M, D⟩ := hd
    refine (hc c R u M.k).mono fun e w' ⟨he, ⟨u', hk⟩, hto⟩ => ?_
    have hj : Jn w0 N oc g r XX X iv ins true true w' := ⟨S, _, v, u', M.stepR hk hto, D.stepR hto⟩
    exact ⟨he, ⟨true, hj⟩, fun _ => ⟨true, true, hj⟩, fun _ => ⟨true, hj⟩, fun _ => ⟨true, hj⟩⟩
  · obtain ⟨a, c, S, R, v, u, M, D⟩ := h
    refine (hc c R u M.k).mono fun e w' ⟨he, ⟨u', hk⟩, hto⟩ => ?_
    have hj : Jn w0 N oc g r XX X iv ins a true w' := ⟨S, _, v, u', M.stepR hk hto, D.stepR hto⟩
    exact ⟨he, ⟨a, hj⟩, fun _ => ⟨a, true, hj⟩, fun e => absurd e hd, fun _ => ⟨a, hj⟩⟩
theorem Jn.both {W : World} (h1 : ∃ c, Jn w0 N oc g r XX X iv ins true c W) (h2 : ∃ a, Jn w0 N oc g r XX X iv ins a true W) : Jn w0 N oc g r XX X iv ins true true W := by
  obtain ⟨c, h1⟩ := h1
  obtain ⟨a, h2⟩ := h2
  cases c with
  | true => exact h1
  | false =>
    cases a with
    | true => exact h2
    | false =>
      obtain ⟨S, R, v, u, M, D⟩ := h1
      obtain ⟨S', R', v', u', M', D'⟩ := h2
      obtain ⟨e1, e2, e3⟩ := M.k.uniq M'.k
      have e : XX false = XX true := Prod.ext e1 (Prod.ext e2 e3)
      rw [e] at M
      exact ⟨S, R, v, u, M, D⟩
end
theorem termAt_self (B T : Nat) (es : List Ent) : (termAt B T es B).1 = T := by
  unfold termAt
  rw [if_neg (by omega), if_pos rfl]
/-- What a cut that is told is done leaves. -/
def cutX (B T : Nat) (es : List Ent) (i : Nat) : Bool → Nat × Nat × List Ent
  | false => (B, T, es)
  | true => (B, T, es.take (i - B))
def packX (B T : Nat) (es : List Ent) (i : Nat) : Bool → Nat × Nat × List Ent
  | false => (B, T, es)
  | true => (i, (termAt B T es i).1, es.drop (i - B))
theorem cutX_may {B T : Nat} {es : List Ent} {i : Nat} (h : mayI B es.length i = true) (a : Bool) : mayI (cutX B T es i a).1 (cutX B T es i a).2.2.length i = true ∧ (cutX B T es i a).2.2.take (i - (cutX B T es i a).1) = es.take (i - B) ∧ (cutX B T es i a).1 = B ∧ (cutX B T es i a).2.1 = T ∧ (cutX B T es i a).2.2.length ≤ es.length := by
  have h2 : B ≤ i ∧ i ≤ B + es.length := by unfold mayI at h; simpa using h
  cases a with
  | false => exact ⟨h, rfl, rfl, rfl, Nat.le_refl _⟩
  | true =>
    refine ⟨?_, ?_, rfl, rfl, ?_⟩
    · show mayI B (es.take (i - B)).length i = true
      unfold mayI; rw [List.length_take]; simp; omega
    · show (es.take (i - B)).take (i - B) = _
      rw [List.take_take, Nat.min_self]
    · show (es.take (i - B)).length ≤ _
      rw [List.length_take]; omega
theorem packX_may {B T : Nat} {es : List Ent} {i : Nat} (h : mayI B es.length i = true) (a : Bool) : mayI (packX B T es i a).1 (packX B T es i a).2.2.length i = true ∧ (packX B T es i a).2.2.drop (i - (packX B T es i a).1) = es.drop (i - B) ∧ (termAt (packX B T es i a).1 (packX B T es i a).2.1 (packX B T es i a).2.2 i).1 = (termAt B T es i).1 ∧ (packX B T es i a).2.2.length ≤ es.length := by
  cases a with
  | false => exact ⟨h, rfl, rfl, Nat.le_refl _⟩
  | true =>
    refine ⟨?_, ?_, ?_, ?_⟩
    · show mayI i (es.drop (i - B)).length i = true
      unfold mayI; simp
    · show (es.drop (i - B)).drop (i - i) = _
      rw [Nat.sub_self, List.drop_zero]
    · show (termAt i (termAt B T es i).1 (es.drop (i - B)) i).1 = _
      exact termAt_self ..
    · show (es.drop (i - B)).length ≤ _
      rw [List.length_drop]; omega
theorem cutT (W : World) (S : Foot) (g B T i : Nat) (v : Value) (es : List Ent) (hm : mayI B es.length i = true) (a : Bool) (h : TkAt W S g (cutX B T es i a).1 (cutX B T es i a).2.1 v (cutX B T es i a).2.2) :
    Calls Try.prog 26 #[.pointer (some ⟨g, 0, none⟩), .int .u64 (i : Int)] W fun e w' => e = .returned (.int .i64 0) ∧ (∃ v', TkAt w' (fun b => S b ∨ W.heap.size ≤ b) g (cutX B T es i true).1 (cutX B T es i true).2.1 v' (cutX B T es i true).2.2) ∧ Touch S W w' := by
  obtain ⟨h1, h2, h3, h4, h5⟩ := cutX_may (T := T) hm a
  have hc := cut_ok_w S g _ _ i v _ W h h1
  rw [h2, h3, h4] at hc
  exact hc.mono fun e w' ⟨he, ⟨v', ht⟩, hto⟩ => ⟨he, ⟨v', ht.mono fun b _ hb => .inl hb⟩, hto⟩
theorem cutR (W : World) (S : Foot) (g B T i : Nat) (v : Value) (es : List Ent) (hm : mayI B es.length i = true) (hn : es.length ≤ 1000000) (a : Bool) (h : RkAt W S g (cutX B T es i a).1 (cutX B T es i a).2.1 v (cutX B T es i a).2.2) :
    Calls Try.prog 33 #[.pointer (some ⟨g, 0, none⟩), .int .u64 (i : Int)] W fun e w' => e = .returned (.int .i64 0) ∧ (∃ v', RkAt w' (fun b => S b ∨ W.heap.size ≤ b) g (cutX B T es i true).1 (cutX B T es i true).2.1 v' (cutX B T es i true).2.2) ∧ Touch S W w' := by
  obtain ⟨h1, h2, h3, h4, h5⟩ := cutX_may (T := T) hm a
  have hc := rcut_ok_w S g _ _ i v _ W h h1 (by omega)
  rw [h2, h3, h4] at hc
  exact hc
theorem packT (W : World) (S : Foot) (g B T i : Nat) (v : Value) (es : List Ent) (hm : mayI B es.length i = true) (hn : es.length ≤ 1000000) (a : Bool) (h : TkAt W S g (packX B T es i a).1 (packX B T es i a).2.1 v (packX B T es i a).2.2) :
    Calls Try.prog 34 #[.pointer (some ⟨g, 0, none⟩), .int .u64 (i : Int)] W fun e w' => e = .returned (.int .i64 0) ∧ (∃ v', TkAt w' (fun b => S b ∨ W.heap.size ≤ b) g (packX B T es i true).1 (packX B T es i true).2.1 v' (packX B T es i true).2.2) ∧ Touch S W w' := by
  obtain ⟨h1, h2, h3, h5⟩ := packX_may (T := T) hm a
  have hc := pack_ok_w S g _ _ i v _ W h h1 (by omega)
  rw [h2, h3] at hc
  exact hc
theorem packR (W : World) (S : Foot) (g B T i : Nat) (v : Value) (es : List Ent) (hm : mayI B es.length i = true) (hn : es.length ≤ 1000000) (a : Bool) (h : RkAt W S g (packX B T es i a).1 (packX B T es i a).2.1 v (packX B T es i a).2.2) :
    Calls Try.prog 35 #[.pointer (some ⟨g, 0, none⟩), .int .u64 (i : Int)] W fun e w' => e = .returned (.int .i64 0) ∧ (∃ v', RkAt w' (fun b => S b ∨ W.heap.size ≤ b) g (packX B T es i true).1 (packX B T es i true).2.1 v' (packX B T es i true).2.2) ∧ Touch S W w' := by
  obtain ⟨h1, h2, h3, h5⟩ := packX_may (T := T) hm a
  have hc := rpack_ok_w S g _ _ i v _ W h h1 (by omega)
  rw [h2, h3] at hc
  exact hc
/-- Cut, whatever it says. -/
theorem cut_any_w (S : Foot) (g B T i : Nat) (v : Value) (es : List Ent) (w : World) (h : TkAt w S g B T v es) :
    Calls Try.prog 26 #[.pointer (some ⟨g, 0, none⟩), .int .u64 (i : Int)] w fun r w' => (∃ x, r = .returned (.int .i64 x)) ∧ Touch S w w' := by
  cases hm : mayI B es.length i with
  | false => exact (cut_no_w S g B T i v es w h hm).mono fun r w' ⟨he, hB⟩ => ⟨⟨_, he⟩, Touch.of_below hB⟩
  | true => exact (cut_ok_w S g B T i v es w h hm).mono fun r w' ⟨he, _, hto⟩ => ⟨⟨_, he⟩, hto⟩
theorem meet_fits {B T : Nat} {es : List Ent} {prev term : Nat} {ss : List Ent} :
    (∀ e ∈ (meetR B T es prev term ss).2.1, e ∈ ss) ∧ (meetR B T es prev term ss).2.1.length ≤ ss.length ∧ ((meetR B T es prev term ss).2.2 = 0 → B ≤ (meetR B T es prev term ss).1 ∧ (meetR B T es prev term ss).1 ≤ B + es.length) := by
  unfold meetR
  by_cases h1 : prev < B ∧ ss.length < B - prev
  · rw [if_pos h1]; exact ⟨fun e he => (by cases he), Nat.zero_le _, fun h => (by cases h)⟩
  · rw [if_neg h1]
    by_cases h2 : B + es.length < prev ∨ ((termAt B T es prev).2 = true ∧ (termAt B T es prev).1 ≠ term)
    · rw [if_pos h2]; exact ⟨fun e he => (by cases he), Nat.zero_le _, fun h => (by cases h)⟩
    · rw [if_neg h2]
      have hpl : prev ≤ B + es.length := by apply Classical.byContradiction; intro hn; exact h2 (.inl (by omega))
      cases hf : (List.range (placedN prev ss.length)).find? (misses B T es prev ss) with
      | none => exact ⟨fun e he => (by cases he), Nat.zero_le _, fun _ => ⟨by simp, Nat.le_refl _⟩⟩
      | some k =>
        obtain ⟨hk, hkm, hj⟩ := List.find?_range_eq_some.1 hf
        have hbk : B < prev + k + 1 := by
          unfold misses at hk
          have := (Bool.and_eq_true_iff.1 hk).1
          simpa using this
        refine ⟨fun e he => List.mem_of_mem_drop he, by show (ss.drop k).length ≤ _; rw [List.length_drop]; omega, fun _ => ⟨by show B ≤ prev + k; omega, ?_⟩⟩
        show prev + k ≤ B + es.length
        rcases Nat.eq_zero_or_pos k with h0 | h0
        · omega
        · by_cases hb : B < prev + (k - 1) + 1
          · have := (meets_not (B := B) (T := T) (es := es) (prev := prev) (ss := ss) (k := k - 1) (by simpa using hj (k - 1) (by omega)) hb).1; omega
          · omega
end Go.Proofs.Yteellfgiejnigaa
