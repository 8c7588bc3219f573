/- A region that draws no order, walked by the same steps as one that does: its operations may write nothing that was there. -/
import Derived.Test.YteellfgiejnigaaReg
namespace Go.Proofs.Yteellfgiejnigaa.RegT
open Go.RowKit
set_option linter.unusedVariables false

def quietK : Kind → Bool | some ⟨true, _, _⟩ => false | _ => true
theorem T_list {P : Program} {ops : Array Oper} {R : World → World → Prop} {w0 : World} {Q : Exit → Act → World → Prop} (htrans : ∀ x y z, R x y → R y z → R x z) :
    ∀ (L : List Kind) (i : Nat) (a : Act) (env : List Fact) (w : World), L.all quietK = true → T P ops R w0 Q L i a env → R w0 w → left i env w → (∀ x ∈ env, ∀ v y z, Grow y z → x.what v y → x.what v z) → wpList P ops Q (ops.toList.drop i) a w
  | [], i, a, env, w, _, h, hR, hl, _ => h w hR hl
  | k :: L, i, a, env, w, hq, h, hR, hl, hm => by
    simp only [List.all_cons, Bool.and_eq_true] at hq
    have hg : given ops i env w := fun x hx _ hc => hl x hx (hc.imp id fun e => ⟨i, e, Nat.le_refl _⟩)
    have hl' : left (i + 1) env w := fun x hx hc => hl x hx (hc.imp id fun ⟨j, e, hj⟩ => ⟨j, e, by omega⟩)
    have hd : ∀ o, ops[i]? = some o → ops.toList.drop i = o :: ops.toList.drop (i + 1) := fun o ho => by
      obtain ⟨hi, e⟩ := Array.getElem?_eq_some_iff.1 ho
      rw [List.drop_eq_getElem_cons (by simpa using hi)]
      simp [← e]
    have lk : ∀ w', Grow w w' → left (i + 1) env w' := fun w' hG x hx hc => hm x hx _ _ _ hG (hl' x hx hc)
    match k, hq, h with
    | none, hq, ⟨o, ho, v, hv, ht⟩ =>
      rw [hd o ho]
      unfold wpList
      rcases hv with ⟨hw, hr⟩ | ⟨hw, rfl⟩
      · rw [if_pos hw]
        refine .inl ?_
        unfold Oper.wp
        rw [hr w hR]
        exact T_list htrans L (i + 1) _ env w hq.2 ht hR hl' hm
      · rw [if_neg (by rw [hw]; simp)]
        exact T_list htrans L (i + 1) _ env w hq.2 ht hR hl' hm
    | some ⟨wr, cons, .inl c⟩, hq, ⟨o, ho, hw, hr, ht⟩ =>
      rw [hd o ho]
      unfold wpList
      rw [if_pos hw]
      have hwr : wr = false := by cases wr <;> simp_all [quietK]
      refine .inl (OpOK_wp (hr w hR hg) ?_)
      rintro v w' ⟨rfl, h1, h2⟩
      exact T_list htrans L (i + 1) _ env w' hq.2 ht (htrans _ _ _ hR h1) (lk _ (h2 hwr)) hm
    | some ⟨wr, cons, .inr Φ⟩, hq, ⟨hmono, o, ho, hw, hr, ht⟩ =>
      rw [hd o ho]
      unfold wpList
      rw [if_pos hw]
      have hwr : wr = false := by cases wr <;> simp_all [quietK]
      refine .inl (OpOK_wp (hr w hR hg) ?_)
      rintro v w' ⟨h0, h1, h2⟩
      refine T_list htrans L (i + 1) _ _ w' hq.2 (ht v) (htrans _ _ _ hR h1) ?_ ?_
      · intro x hx hc
        rcases List.mem_cons.1 hx with rfl | hx
        · exact h0
        · exact lk _ (h2 hwr) x hx hc
      · intro x hx
        rcases List.mem_cons.1 hx with rfl | hx
        · exact hmono
        · exact hm x hx
theorem wp_region_F {P : Program} {ops : Array Oper} {Q : Exit → Act → World → Prop} {id : Nat} {a : Act} {w : World} (R : World → World → Prop) (hrefl : ∀ x, R x x) (htrans : ∀ x y z, R x y → R y z → R x z)
    {L : List Kind} (h : T P ops R w Q L 0 a []) (hL : L.all quietK = true) : (Code.region id ops false).wp P Q a w :=
  wp_region_list (T_list htrans L 0 a [] w hL h (hrefl _) (fun x hx => by cases hx) (fun x hx => by cases hx))
end Go.Proofs.Yteellfgiejnigaa.RegT
