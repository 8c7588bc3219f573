/- A region that draws its order, inside a round of a range over a function: by the same one walk. -/
import Derived.Test.YteellfgiejnigaaReg2
import Derived.OrdersIn
import Derived.RangeFuncCalls
namespace Go.Proofs.Yteellfgiejnigaa.RegT
open Go.RowKit
set_option linter.unusedVariables false

variable {P : Program} {ops : Array Oper} {Q : Exit → Act → World → Prop}
theorem wpAny_T {a : Act} {w : World} (m np : Nat) (hsz : a.tmps.size = m) (hform : form ops m np = true) (R : World → World → Prop) (hrefl : ∀ x, R x x) (htrans : ∀ x y z, R x y → R y z → R x z)
    {L : List Kind} (h : T P ops R w.drew Q L 0 a []) (hL : L.length = np) (hwok : wok ops L = true) : wpAny P .any ops Q ops.size (Array.replicate ops.size false) a w.drew := by
  subst hsz
  subst hL
  have F := form_open hform
  have O := T_obl L h (hrefl _) F.le hwok
  refine inv_any F O hrefl htrans _ _ _ w.drew (fun _ => undef) ⟨?_, by simp, rfl, rfl, hrefl _, ?_, ?_, ?_, fun _ _ => rfl⟩ ?_
  · intro i hl; simp [Array.getD_eq_getD_getElem?, Array.getElem?_replicate] at hl; split at hl <;> cases hl
  · intro i o _ hl; simp [Array.getD_eq_getD_getElem?, Array.getElem?_replicate] at hl; split at hl <;> cases hl
  · intro i o d _ hl; simp [Array.getD_eq_getD_getElem?, Array.getElem?_replicate] at hl; split at hl <;> cases hl
  · intro i wr cons Φ _ hl; simp [Array.getD_eq_getD_getElem?, Array.getElem?_replicate] at hl; split at hl <;> cases hl
  · refine Nat.le_trans (List.length_filter_le _ _) ?_
    simp

def noDefer (ops : Array Oper) : Bool := ops.all fun o => match o.op with | .defer _ => false | _ => true
theorem wpIn_of_wp {l : Nat} {o : Oper} {a : Act} {w : World} {K K' : Act → World → Prop} (hnd : ∀ c, o.op ≠ .defer c) (hK : ∀ a w, K a w → K' a w) (h : o.wp P a w K Q) : o.wpIn (Fence.wide.inRound l) 0 P a w K' Q := by
  refine ⟨fun f _ => trivial, ?_⟩
  rw [Oper.semAt_eq _ _ _ hnd]
  unfold Oper.wp at h
  generalize (execOp a.eval o).run P w = r at *
  cases r with
  | ok n w' =>
    cases n with
    | value v => exact hK _ _ h
    | skip => exact hK _ _ h
    | defer d => exact hK _ _ h
    | enter f args =>
      rw [Oper.uponIn_enter]
      refine And.intro (fun e => by cases e) ?_
      refine CallsIn.inRound l ((callsIn_wide (n := 0)).2 (Calls.mono h fun e w'' he => ?_))
      cases e with
      | returned v => exact hK _ _ he
      | panicked c => exact he
      | outgrown => exact he
    | row row args =>
      rw [Oper.uponIn_row]
      refine And.intro (fun e => by cases e) ?_
      intro c cs _
      obtain ⟨v, w'', r, s⟩ := h c cs
      exact ⟨v, w'', hK _ _ r, stepsIn_wide.2 s⟩
    | _ => exact h.elim
  | halt x w' =>
    cases x <;> first | exact h | exact h.elim
theorem wpAnyIn_of_wpAny {l : Nat} (hnd : ∀ (i : Nat) (o : Oper), ops[i]? = some o → ∀ c, o.op ≠ .defer c) (hlo : ¬ LetsOut Q) : ∀ (fuel : Nat) (listed : Array Bool) (a : Act) (w : World),
    wpAny P .any ops Q fuel listed a w → wpAnyIn (Fence.wide.inRound l) 0 P .any ops Q fuel listed a w
  | 0, _, _, _, h => h
  | fuel + 1, listed, a, w, ⟨h0, h1⟩ => by
    refine ⟨h0, fun i hi => ?_⟩
    have h2 := h1 i hi
    unfold wpOp at h2
    unfold wpOpIn
    cases ho : ops[i]? with
    | none => rw [ho] at h2; exact wpAnyIn_of_wpAny hnd hlo fuel _ a w h2
    | some o =>
      rw [ho] at h2
      simp only at h2 ⊢
      split
      · rename_i hw
        rw [if_pos hw] at h2
        rcases h2 with h2 | h2
        · exact wpIn_of_wp (hnd i o ho) (fun a' w' h => wpAnyIn_of_wpAny hnd hlo fuel _ a' w' h) h2
        · exact absurd h2.2 hlo
      · rename_i hw
        rw [if_neg hw] at h2
        exact ⟨fun f _ => trivial, wpAnyIn_of_wpAny hnd hlo fuel _ _ w h2⟩
theorem noDefer_of (h : noDefer ops = true) (i : Nat) (o : Oper) (ho : ops[i]? = some o) : ∀ c, o.op ≠ .defer c := fun c e => by
  unfold noDefer at h
  rw [Array.all_eq_true_iff_forall_mem] at h
  have := h o (Array.mem_of_getElem? ho)
  rw [e] at this
  cases this
/-- The same walk, in a round. -/
theorem wpIn_region_T {l : Nat} {id : Nat} {a : Act} {w : World} (hm : P.follows .mixedOrders = true) (m np : Nat) (hsz : a.tmps.size = m) (hform : form ops m np = true) (hnd : noDefer ops = true) (hlo : ¬ LetsOut Q) (R : World → World → Prop) (hrefl : ∀ x, R x x) (htrans : ∀ x y z, R x y → R y z → R x z)
    {L : List Kind} (h : T P ops R w.drew Q L 0 a []) (hL : L.length = np) (hwok : wok ops L = true) : (Code.region id ops true).wpIn (Fence.wide.inRound l) 0 P Q a w :=
  wpIn_region_any hm (wpAnyIn_of_wpAny (noDefer_of hnd) hlo _ _ _ _ (wpAny_T m np hsz hform R hrefl htrans h hL hwok))
end Go.Proofs.Yteellfgiejnigaa.RegT
