/- notes.Read: its walks joined. -/
import Derived.Test.YteellfgiejnigaaQbU6d
import Derived.Test.YteellfgiejnigaaQbU6l
import Derived.Test.YteellfgiejnigaaQbU6n
import Derived.Test.YteellfgiejnigaaQbU6y
namespace Go.Proofs.Yteellfgiejnigaa
open Go.ChangeShapes Go.WideShapes Go.ChangeAt Go.RowKit
set_option linter.unusedVariables false
theorem Rd.rest_y {b : List UInt8} {fl fd : Bool} {s : Rd.St} {y : Bool} {s5 : Rd.St} (h : Form.flg b s.1 s.2 = (y, s5)) : Rd.rest b true fl fd s = ((y, [], []), s5) := by
  unfold Rd.rest; rw [if_pos rfl, h]
theorem Rd.rest_l {b : List UInt8} {fd : Bool} {s : Rd.St} {n : Nat} {s5 : Rd.St} (h : Form.small b s.1 s.2 16 = (n, s5)) : Rd.rest b false true fd s = ((false, (Rd.es b s5 n).1, []), (Rd.es b s5 n).2) := by
  unfold Rd.rest; rw [if_neg (by decide), if_pos rfl, h]
theorem Rd.rest_d {b : List UInt8} {s : Rd.St} {t : List UInt8} {s5 : Rd.St} (h : Form.txt b s.1 s.2 524288 = (t, s5)) : Rd.rest b false false true s = ((false, [], t), s5) := by
  unfold Rd.rest; rw [if_neg (by decide), if_neg (by decide), if_pos rfl, h]
theorem Rd.rest_n (b : List UInt8) (s : Rd.St) : Rd.rest b false false false s = ((false, [], []), s) := by
  unfold Rd.rest; rw [if_neg (by decide), if_neg (by decide), if_neg (by decide)]
theorem Rd.of_rest {b : List UInt8} {r : (Bool × List Ent × List UInt8) × Rd.St} (h : Rd.sR b = r) : Rd.taken b = ⟨(Rd.sK b).1, (Rd.sT b).1, Rd.vN b 0, Rd.vN b 1, Rd.vN b 2, Rd.vN b 3, r.1.1, r.1.2.1, r.1.2.2⟩ ∧
    Rd.fine b = (decide (Form.done b.length r.2.1 r.2.2 = 0) && mayN ⟨(Rd.sK b).1, (Rd.sT b).1, Rd.vN b 0, Rd.vN b 1, Rd.vN b 2, Rd.vN b 3, r.1.1, r.1.2.1, r.1.2.2⟩) := by
  subst h
  exact ⟨rfl, rfl⟩
theorem read43_w (v : Value) (b : List UInt8) (w : World) (hb : RdB w v b) (hl : b.length ≤ 1000000) : Calls Try.prog 43 #[v] w (ReadP w (Rd.taken b) (Rd.fine b)) := by
  have hK : Form.small b 0 0 7 = ((Rd.sK b).1, (Rd.sK b).2) := rfl
  have hT : Form.small b (Rd.sK b).2.1 (Rd.sK b).2.2 18446744073709551615 = ((Rd.sT b).1, (Rd.sT b).2) := rfl
  have hF := fun W => fields_w (Rd.sK b).1 W
  have hs4 : Rd.ns b (Rd.flags (Rd.sK b).1) (Rd.sT b).2 4 = Rd.s4 b := rfl
  have hsR : Rd.sR b = Rd.rest b (hasY (Rd.sK b).1) (hasL (Rd.sK b).1) (hasD (Rd.sK b).1) (Rd.s4 b) := rfl
  cases hy : hasY (Rd.sK b).1 with
  | true =>
    have hl0 : hasL (Rd.sK b).1 = false := by unfold hasY at hy; unfold hasL; have := of_decide_eq_true hy; exact decide_eq_false (by omega)
    have hd0 : hasD (Rd.sK b).1 = false := by unfold hasY at hy; unfold hasD; have := of_decide_eq_true hy; exact decide_eq_false (by omega)
    rw [hy, hl0, hd0] at hF
    obtain ⟨y, s5, h5⟩ : ∃ y s5, Form.flg b (Rd.s4 b).1 (Rd.s4 b).2 = (y, s5) := ⟨_, _, rfl⟩
    rw [hy, Rd.rest_y h5] at hsR
    rw [(Rd.of_rest hsR).1, (Rd.of_rest hsR).2]
    exact read_y_w _ _ _ _ (Rd.flags (Rd.sK b).1) v b w hb hl hK hT y s5 h5 hF
  | false =>
    cases hl1 : hasL (Rd.sK b).1 with
    | true =>
      have hd0 : hasD (Rd.sK b).1 = false := by unfold hasL at hl1; unfold hasD; have := of_decide_eq_true hl1; exact decide_eq_false (by omega)
      rw [hy, hl1, hd0] at hF
      obtain ⟨n, s5, h5⟩ : ∃ n s5, Form.small b (Rd.s4 b).1 (Rd.s4 b).2 16 = (n, s5) := ⟨_, _, rfl⟩
      rw [hy, hl1, Rd.rest_l h5] at hsR
      rw [(Rd.of_rest hsR).1, (Rd.of_rest hsR).2]
      exact read_l_w _ _ _ _ (Rd.flags (Rd.sK b).1) v b w hb hl hK hT n s5 h5 hF
    | false =>
      cases hd1 : hasD (Rd.sK b).1 with
      | true =>
        rw [hy, hl1, hd1] at hF
        obtain ⟨t, s5, h5⟩ : ∃ t s5, Form.txt b (Rd.s4 b).1 (Rd.s4 b).2 524288 = (t, s5) := ⟨_, _, rfl⟩
        rw [hy, hl1, hd1, Rd.rest_d h5] at hsR
        rw [(Rd.of_rest hsR).1, (Rd.of_rest hsR).2]
        exact read_d_w _ _ _ _ (Rd.flags (Rd.sK b).1) v b w hb hl hK hT t s5 h5 hF
      | false =>
        rw [hy, hl1, hd1] at hF
        rw [hy, hl1, hd1, Rd.rest_n] at hsR
        rw [(Rd.of_rest hsR).1, (Rd.of_rest hsR).2]
        exact read_n_w _ _ _ _ (Rd.flags (Rd.sK b).1) v b w hb hl hK hT hF
end Go.Proofs.Yteellfgiejnigaa
