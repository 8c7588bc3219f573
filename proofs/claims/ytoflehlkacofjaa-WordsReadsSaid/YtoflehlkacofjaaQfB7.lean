/- Commands: their forms are read back; what is read well is its form. Plain. -/
import Derived.Test.YtoflehlkacofjaaQfB6
namespace Go.Proofs.Ytoflehlkacofjaa
open Go.ChangeShapes Go.WideShapes Go.ChangeAt Go.RowKit
set_option linter.unusedVariables false
namespace Form
theorem small_shift (b : List UInt8) (a0 a : Nat) (e : Int) (most : Nat) : small b (a0 + a) e most = ((small (b.drop a0) a e most).1, a0 + (small (b.drop a0) a e most).2.1, (small (b.drop a0) a e most).2.2) := by
  unfold small
  rw [List.drop_drop]
  by_cases h : e ≠ 0
  · rw [if_pos h, if_pos h]
  · rw [if_neg h, if_neg h]
    dsimp only
    split
    · split
      · rfl
      · simp only [Nat.add_assoc]
    · rfl
theorem rst_shift (b : List UInt8) (a0 : Nat) (e : Int) : ∀ i, rst b a0 e i = (a0 + (rst (b.drop a0) 0 e i).1, (rst (b.drop a0) 0 e i).2) := by
  intro i
  induction i with
  | zero => rfl
  | succ i ih =>
    show (small b (rst b a0 e i).1 (rst b a0 e i).2 (mst i)).2 = _
    rw [ih]
    show (small b (a0 + (rst (b.drop a0) 0 e i).1) _ (mst i)).2 = _
    rw [small_shift]
    rfl
theorem rv_shift (b : List UInt8) (a0 : Nat) (e : Int) (i : Nat) : rv b a0 e i = rv (b.drop a0) 0 e i := by
  unfold rv
  rw [rst_shift]
  show (small b (a0 + (rst (b.drop a0) 0 e i).1) _ (mst i)).1 = _
  rw [small_shift]
theorem rst_bad (b : List UInt8) (a : Nat) (e : Int) (h : e ≠ 0) : ∀ i, rst b a e i = (a, e) := by
  intro i
  induction i with
  | zero => rfl
  | succ i ih =>
    show (small b (rst b a e i).1 (rst b a e i).2 (mst i)).2 = _
    rw [ih]
    unfold small
    rw [if_pos h]
theorem flg_at (F rest : List UInt8) (f : Bool) (a : Nat) (h : F.drop a = flag f ++ rest) : flg F a 0 = (f, a + 1, 0) := by
  have hx : F[a]? = some (if f then 1 else 0) := by
    have := congrArg (·[0]?) h
    simp only [List.getElem?_drop, Nat.add_zero] at this
    rw [this]
    cases f <;> rfl
  unfold flg
  rw [if_neg (by simp), hx]
  cases f <;> rfl
theorem flg_good {b : List UInt8} {a : Nat} {e : Int} {f : Bool} {a' : Nat} (h : flg b a e = (f, a', 0)) : e = 0 ∧ a' = a + 1 ∧ b.drop a = flag f ++ b.drop a' := by
  unfold flg at h
  by_cases he : e = 0
  · rw [if_neg (by simp [he])] at h
    cases hx : b[a]? with
    | none => rw [hx] at h; simp at h
    | some x =>
      rw [hx] at h
      simp only at h
      split at h
      · simp at h
      · rename_i h1
        simp only [Prod.mk.injEq, and_true] at h
        obtain ⟨rfl, rfl⟩ := h
        obtain ⟨hlt, hg⟩ := List.getElem?_eq_some_iff.1 hx
        refine ⟨he, rfl, ?_⟩
        rw [List.drop_eq_getElem_cons hlt, hg]
        have hw : x.toNat = 0 ∨ x.toNat = 1 := by omega
        rcases hw with h0 | h0
        · have : x = 0 := UInt8.toNat_inj.1 (by rw [h0]; rfl)
          subst this; rfl
        · have : x = 1 := UInt8.toNat_inj.1 (by rw [h0]; rfl)
          subst this; rfl
  · rw [if_pos he] at h
    simp only [Prod.mk.injEq] at h
    exact absurd h.2.2 he
end Form
namespace Sp
theorem taken_shift (b : List UInt8) (a0 : Nat) (e : Int) : taken b a0 e = taken (b.drop a0) 0 e := by
  unfold taken
  simp only [Form.rv_shift b a0 e]
/-- The data of a form, wherever it lies. -/
theorem got_form (b rest : List UInt8) (a : Nat) (s : Sp) (h : s.ok) (hm : s.mayB = true) (hd : b.drop a = s.form ++ rest) : (got b a 0).cells = s.cells ∧ Form.rst b a 0 25 = (a + s.form.length, 0) ∧ gotE b a 0 = 0 := by
  have ha := taken_form s rest h hm
  have hr := rst_form s rest h hm 25 (Nat.le_refl _)
  have ht : (taken b a 0).mayB = true := by rw [taken_shift, hd, ha.mayB]; exact hm
  have hr2 : Form.rst b a 0 25 = (a + s.form.length, 0) := by rw [Form.rst_shift, hd, hr, formN_form]
  refine ⟨?_, hr2, ?_⟩
  · unfold got; rw [if_pos ht, taken_shift, hd]; exact ha.cells
  · unfold gotE; rw [if_pos ht, hr2]
/-- Data read well are their form. -/
theorem got_good (b : List UInt8) (a : Nat) (e : Int) (h : gotE b a e = 0) : e = 0 ∧ b.drop a = (got b a e).form ++ b.drop (Form.rst b a e 25).1 ∧ (Form.rst b a e 25).1 = a + (got b a e).form.length := by
  unfold gotE at h
  by_cases hm : (taken b a e).mayB = true
  · rw [if_pos hm] at h
    have he : e = 0 := by
      by_cases he : e = 0
      · exact he
      · rw [Form.rst_bad b a e he] at h; exact h
    subst he
    rw [Form.rst_shift] at h ⊢
    have h1 := rst_read (b.drop a) (taken (b.drop a) 0 0) (fun i hi => taken_num _ i hi) h 25 (Nat.le_refl _)
    have hg : got b a 0 = taken (b.drop a) 0 0 := by unfold got; rw [if_pos hm, taken_shift]
    rw [hg, ← formN_form]
    refine ⟨rfl, ?_, ?_⟩
    · show b.drop a = _ ++ b.drop (a + _)
      rw [← List.drop_drop]
      exact h1.1
    · show a + _ = a + _
      rw [h1.2]
  · rw [if_neg hm] at h
    split at h
    · simp at h
    · rename_i h2; exact absurd h h2
end Sp
namespace Cm
/-- A letter's field, copied. -/
def copyL (x y : Cm) (c : UInt8) : Cm :=
  if c = 97 then { y with account := x.account } else if c = 99 then { y with contract := x.contract } else if c = 110 then { y with number := x.number } else if c = 109 then { y with amount := x.amount } else if c = 115 then { y with spec := x.spec }
  else if c = 111 then { y with on := x.on } else if c = 98 then { y with buy := x.buy } else if c = 107 then { y with as_ := x.as_ } else if c = 112 then { y with price := x.price } else if c = 113 then { y with qty := x.qty } else y
theorem rdL_back (x : Cm) (hx : x.ok) (c : UInt8) (hm : c = 115 → x.spec.mayB = true) (b t : List UInt8) (a : Nat) (y z : Cm) (hyz : y.cells = z.cells) (h : b.drop a = x.piece c ++ t) :
    (rdL b (y, a, 0) c).1.cells = (copyL x z c).cells ∧ (rdL b (y, a, 0) c).2 = (a + (x.piece c).length, 0) := by
  obtain ⟨h0, h1, h2, h3, h4, h5, h6, h7, h8, h9, h10⟩ := fields_of hyz
  have e1 := hx.account; have e2 := hx.contract; have e3 := hx.number; have e8 := hx.as_
  have e4 := Form.fold_lt hx.amount.1 hx.amount.2
  have e9 := Form.fold_lt hx.price.1 hx.price.2
  have e10 := Form.fold_lt hx.qty.1 hx.qty.2
  unfold piece at h ⊢
  unfold rdL copyL
  by_cases c1 : c = 97
  · simp only [if_pos c1] at h ⊢
    rw [Form.small_at b t x.account a 4294967295 (by omega) (by decide) h]
    exact ⟨cells_of h0 rfl h2 h3 h4 h5 h6 h7 h8 h9 h10, rfl⟩
  simp only [if_neg c1] at h ⊢
  by_cases c2 : c = 99
  · simp only [if_pos c2] at h ⊢
    rw [Form.small_at b t x.contract a 4294967295 (by omega) (by decide) h]
    exact ⟨cells_of h0 h1 rfl h3 h4 h5 h6 h7 h8 h9 h10, rfl⟩
  simp only [if_neg c2] at h ⊢
  by_cases c3 : c = 110
  · simp only [if_pos c3] at h ⊢
    rw [Form.small_at b t x.number a 18446744073709551615 (by omega) (by decide) h]
    exact ⟨cells_of h0 h1 h2 rfl h4 h5 h6 h7 h8 h9 h10, rfl⟩
  simp only [if_neg c3] at h ⊢
  by_cases c4 : c = 109
  · simp only [if_pos c4] at h ⊢
    rw [Form.small_at b t (Form.fold x.amount) a 18446744073709551615 (by omega) (by decide) h, Form.unfold_fold]
    exact ⟨cells_of h0 h1 h2 h3 rfl h5 h6 h7 h8 h9 h10, rfl⟩
  simp only [if_neg c4] at h ⊢
  by_cases c5 : c = 115
  · simp only [if_pos c5] at h ⊢
    obtain ⟨g1, g2, g3⟩ := Sp.got_form b t a x.spec hx.spec (hm c5) h
    refine ⟨cells_of h0 h1 h2 h3 h4 g1 h6 h7 h8 h9 h10, ?_⟩
    show ((Form.rst b a 0 25).1, Sp.gotE b a 0) = _
    rw [g2, g3]
  simp only [if_neg c5] at h ⊢
  by_cases c6 : c = 111
  · simp only [if_pos c6] at h ⊢
    rw [Form.flg_at b t x.on a h]
    exact ⟨cells_of h0 h1 h2 h3 h4 h5 rfl h7 h8 h9 h10, by cases x.on <;> rfl⟩
  simp only [if_neg c6] at h ⊢
  by_cases c7 : c = 98
  · simp only [if_pos c7] at h ⊢
    rw [Form.flg_at b t x.buy a h]
    exact ⟨cells_of h0 h1 h2 h3 h4 h5 h6 rfl h8 h9 h10, by cases x.buy <;> rfl⟩
  simp only [if_neg c7] at h ⊢
  by_cases c8 : c = 107
  · simp only [if_pos c8] at h ⊢
    rw [Form.small_at b t x.as_ a 255 (by omega) (by decide) h]
    exact ⟨cells_of h0 h1 h2 h3 h4 h5 h6 h7 rfl h9 h10, rfl⟩
  simp only [if_neg c8] at h ⊢
  by_cases c9 : c = 112
  · simp only [if_pos c9] at h ⊢
    rw [Form.small_at b t (Form.fold x.price) a 18446744073709551615 (by omega) (by decide) h, Form.unfold_fold]
    exact ⟨cells_of h0 h1 h2 h3 h4 h5 h6 h7 h8 rfl h10, rfl⟩
  simp only [if_neg c9] at h ⊢
  by_cases c10 : c = 113
  · simp only [if_pos c10] at h ⊢
    rw [Form.small_at b t (Form.fold x.qty) a 18446744073709551615 (by omega) (by decide) h, Form.unfold_fold]
    exact ⟨cells_of h0 h1 h2 h3 h4 h5 h6 h7 h8 h9 rfl, rfl⟩
  simp only [if_neg c10] at h ⊢
  exact ⟨hyz, rfl⟩
theorem rdAll_back (x : Cm) (hx : x.ok) (b t : List UInt8) : ∀ (l : List UInt8) (a : Nat) (y z : Cm), (115 ∈ l → x.spec.mayB = true) → y.cells = z.cells → b.drop a = l.flatMap x.piece ++ t →
    (l.foldl (rdL b) (y, a, 0)).1.cells = (l.foldl (copyL x) z).cells ∧ (l.foldl (rdL b) (y, a, 0)).2 = (a + (l.flatMap x.piece).length, 0)
  | [], a, y, z, _, hyz, _ => ⟨hyz, rfl⟩
  | c :: l, a, y, z, hm, hyz, h => by
    rw [List.flatMap_cons, List.append_assoc] at h
    obtain ⟨h1, h2⟩ := rdL_back x hx c (fun e => hm (by subst e; exact List.mem_cons_self ..)) b _ a y z hyz h
    have hd : b.drop (a + (x.piece c).length) = l.flatMap x.piece ++ t := by
      rw [← List.drop_drop, h, List.drop_left]
    obtain ⟨y1, hy1⟩ : ∃ y1, (rdL b (y, a, 0) c).1 = y1 := ⟨_, rfl⟩
    have hs : rdL b (y, a, 0) c = (y1, a + (x.piece c).length, 0) := by rw [← hy1, ← h2]
    rw [List.foldl_cons, List.foldl_cons, hs]
    rw [hy1] at h1
    obtain ⟨k1, k2⟩ := rdAll_back x hx b t l _ y1 _ (fun hmem => hm (List.mem_cons_of_mem _ hmem)) h1 hd
    refine ⟨k1, ?_⟩
    rw [k2, List.flatMap_cons, List.length_append, Nat.add_assoc]
theorem copy_bare (x : Cm) (h1 : 1 ≤ x.kind) (h2 : x.kind ≤ 14) : (flds x.kind).foldl (copyL x) (start x.kind) = x.bare := by
  obtain ⟨k, a, n, u, m, s, o, b, z, p, q⟩ := x
  dsimp only at *
  have hk : k = 1 ∨ k = 2 ∨ k = 3 ∨ k = 4 ∨ k = 5 ∨ k = 6 ∨ k = 7 ∨ k = 8 ∨ k = 9 ∨ k = 10 ∨ k = 11 ∨ k = 12 ∨ k = 13 ∨ k = 14 := by omega
  rcases hk with rfl | rfl | rfl | rfl | rfl | rfl | rfl | rfl | rfl | rfl | rfl | rfl | rfl | rfl <;> rfl
theorem spec_letter (k : Nat) (h : 115 ∈ flds k) : k = 3 := by
  unfold flds at h
  by_cases hk : k = 3
  · exact hk
  · exfalso
    revert h
    repeat' split
    all_goals first | decide | (exact absurd (by assumption) hk)
/-- THERE AND BACK, with whatever behind it. -/
theorem rd_form (x : Cm) (hx : x.ok) (hm : x.mayB = true) (t : List UInt8) : (rd (x.form ++ t)).1.cells = x.cells ∧ (rd (x.form ++ t)).2 = (x.form.length, 0) := by
  obtain ⟨h1, h2, h3, h4⟩ := may_open hm
  have hd : (x.form ++ t).drop 0 = Form.nat x.kind ++ ((flds x.kind).flatMap x.piece ++ t) := by unfold form; rw [List.drop_zero, List.append_assoc]
  have hs := Form.small_at (x.form ++ t) _ x.kind 0 14 h2 (by decide) hd
  have hd2 : (x.form ++ t).drop (0 + (Form.nat x.kind).length) = (flds x.kind).flatMap x.piece ++ t := by rw [← List.drop_drop, hd, List.drop_left]
  obtain ⟨k1, k2⟩ := rdAll_back x hx (x.form ++ t) t (flds x.kind) _ (start x.kind) (start x.kind) (fun h => h4 (spec_letter _ h)) rfl hd2
  unfold rd rd0
  rw [hs]
  refine ⟨?_, ?_⟩
  · rw [k1, copy_bare x h1 h2]; exact ((same_iff _ _).1 h3).symm
  · rw [k2]; unfold form; rw [List.length_append]; simp
/-! ### One form -/
theorem rdL_ways (b : List UInt8) (s : St) (c : UInt8) : (c = 97 ∧ rdL b s c = ({ s.1 with account := (Form.small b s.2.1 s.2.2 4294967295).1 }, (Form.small b s.2.1 s.2.2 4294967295).2)) ∨ (c = 99 ∧ rdL b s c = ({ s.1 with contract := (Form.small b s.2.1 s.2.2 4294967295).1 }, (Form.small b s.2.1 s.2.2 4294967295).2)) ∨ (c = 110 ∧ rdL b s c = ({ s.1 with number := (Form.small b s.2.1 s.2.2 18446744073709551615).1 }, (Form.small b s.2.1 s.2.2 18446744073709551615).2)) ∨ (c = 109 ∧ rdL b s c = ({ s.1 with amount := Form.unfold_ (Form.small b s.2.1 s.2.2 18446744073709551615).1 }, (Form.small b s.2.1 s.2.2 18446744073709551615).2)) ∨ (c = 115 ∧ rdL b s c = ({ s.1 with spec := Sp.got b s.2.1 s.2.2 }, (Form.rst b s.2.1 s.2.2 25).1, Sp.gotE b s.2.1 s.2.2)) ∨ (c = 111 ∧ rdL b s c = ({ s.1 with on := (Form.flg b s.2.1 s.2.2).1 }, (Form.flg b s.2.1 s.2.2).2)) ∨ (c = 98 ∧ rdL b s c = ({ s.1 with buy := (Form.flg b s.2.1 s.2.2).1 }, (Form.flg b s.2.1 s.2.2).2)) ∨ (c = 107 ∧ rdL b s c = ({ s.1 with as_ := (Form.small b s.2.1 s.2.2 255).1 }, (Form.small b s.2.1 s.2.2 255).2)) ∨ (c = 112 ∧ rdL b s c = ({ s.1 with price := Form.unfold_ (Form.small b s.2.1 s.2.2 18446744073709551615).1 }, (Form.small b s.2.1 s.2.2 18446744073709551615).2)) ∨ (c = 113 ∧ rdL b s c = ({ s.1 with qty := Form.unfold_ (Form.small b s.2.1 s.2.2 18446744073709551615).1 }, (Form.small b s.2.1 s.2.2 18446744073709551615).2)) ∨ rdL b s c = s := by
  by_cases c0 : c = 97
  · exact .inl ⟨c0, by unfold rdL; rw [if_pos c0]⟩
  by_cases c1 : c = 99
  · exact .inr <| .inl ⟨c1, by unfold rdL; rw [if_neg c0, if_pos c1]⟩
  by_cases c2 : c = 110
  · exact .inr <| .inr <| .inl ⟨c2, by unfold rdL; rw [if_neg c0, if_neg c1, if_pos c2]⟩
  by_cases c3 : c = 109
  · exact .inr <| .inr <| .inr <| .inl ⟨c3, by unfold rdL; rw [if_neg c0, if_neg c1, if_neg c2, if_pos c3]⟩
  by_cases c4 : c = 115
  · exact .inr <| .inr <| .inr <| .inr <| .inl ⟨c4, by unfold rdL; rw [if_neg c0, if_neg c1, if_neg c2, if_neg c3, if_pos c4]⟩
  by_cases c5 : c = 111
  · exact .inr <| .inr <| .inr <| .inr <| .inr <| .inl ⟨c5, by unfold rdL; rw [if_neg c0, if_neg c1, if_neg c2, if_neg c3, if_neg c4, if_pos c5]⟩
  by_cases c6 : c = 98
  · exact .inr <| .inr <| .inr <| .inr <| .inr <| .inr <| .inl ⟨c6, by unfold rdL; rw [if_neg c0, if_neg c1, if_neg c2, if_neg c3, if_neg c4, if_neg c5, if_pos c6]⟩
  by_cases c7 : c = 107
  · exact .inr <| .inr <| .inr <| .inr <| .inr <| .inr <| .inr <| .inl ⟨c7, by unfold rdL; rw [if_neg c0, if_neg c1, if_neg c2, if_neg c3, if_neg c4, if_neg c5, if_neg c6, if_pos c7]⟩
  by_cases c8 : c = 112
  · exact .inr <| .inr <| .inr <| .inr <| .inr <| .inr <| .inr <| .inr <| .inl ⟨c8, by unfold rdL; rw [if_neg c0, if_neg c1, if_neg c2, if_neg c3, if_neg c4, if_neg c5, if_neg c6, if_neg c7, if_pos c8]⟩
  by_cases c9 : c = 113
  · exact .inr <| .inr <| .inr <| .inr <| .inr <| .inr <| .inr <| .inr <| .inr <| .inl ⟨c9, by unfold rdL; rw [if_neg c0, if_neg c1, if_neg c2, if_neg c3, if_neg c4, if_neg c5, if_neg c6, if_neg c7, if_neg c8, if_pos c9]⟩
  exact .inr <| .inr <| .inr <| .inr <| .inr <| .inr <| .inr <| .inr <| .inr <| .inr <| (by unfold rdL; rw [if_neg c0, if_neg c1, if_neg c2, if_neg c3, if_neg c4, if_neg c5, if_neg c6, if_neg c7, if_neg c8, if_neg c9])
theorem piece_other (b : List UInt8) (s : St) (c d : UInt8) (h : d ≠ c) : (rdL b s c).1.piece d = s.1.piece d := by
  rcases rdL_ways b s c with ⟨rfl, e⟩ | ⟨rfl, e⟩ | ⟨rfl, e⟩ | ⟨rfl, e⟩ | ⟨rfl, e⟩ | ⟨rfl, e⟩ | ⟨rfl, e⟩ | ⟨rfl, e⟩ | ⟨rfl, e⟩ | ⟨rfl, e⟩ | e
  all_goals first | (rw [e]; unfold piece; simp only [if_neg h]) | rw [e]
theorem piece_fold (b : List UInt8) (d : UInt8) : ∀ (l : List UInt8) (s : St), d ∉ l → (l.foldl (rdL b) s).1.piece d = s.1.piece d
  | [], _, _ => rfl
  | c :: l, s, h => by
    rw [List.foldl_cons, piece_fold b d l _ (fun hm => h (List.mem_cons_of_mem _ hm)), piece_other b s c d (fun e => h (by rw [e]; exact List.mem_cons_self ..))]
theorem kind_rdL (b : List UInt8) (s : St) (c : UInt8) : (rdL b s c).1.kind = s.1.kind := by
  rcases rdL_ways b s c with ⟨rfl, e⟩ | ⟨rfl, e⟩ | ⟨rfl, e⟩ | ⟨rfl, e⟩ | ⟨rfl, e⟩ | ⟨rfl, e⟩ | ⟨rfl, e⟩ | ⟨rfl, e⟩ | ⟨rfl, e⟩ | ⟨rfl, e⟩ | e
  all_goals rw [e]
theorem kind_fold (b : List UInt8) : ∀ (l : List UInt8) (s : St), (l.foldl (rdL b) s).1.kind = s.1.kind
  | [], _ => rfl
  | c :: l, s => by rw [List.foldl_cons, kind_fold b l, kind_rdL]
theorem rdL_good (b : List UInt8) (s : St) (c : UInt8) (h : (rdL b s c).2.2 = 0) : s.2.2 = 0 ∧ b.drop s.2.1 = (rdL b s c).1.piece c ++ b.drop (rdL b s c).2.1 ∧ (rdL b s c).2.1 = s.2.1 + ((rdL b s c).1.piece c).length := by
  have N : ∀ most, (Form.small b s.2.1 s.2.2 most).2.2 = 0 → s.2.2 = 0 ∧ b.drop s.2.1 = Form.nat (Form.small b s.2.1 s.2.2 most).1 ++ b.drop (Form.small b s.2.1 s.2.2 most).2.1 ∧ (Form.small b s.2.1 s.2.2 most).2.1 = s.2.1 + (Form.nat (Form.small b s.2.1 s.2.2 most).1).length := fun most h0 => by
    obtain ⟨h1, h2, h3⟩ := Form.small_good (b := b) (a := s.2.1) (e := s.2.2) (most := most) (n := (Form.small b s.2.1 s.2.2 most).1) (a' := (Form.small b s.2.1 s.2.2 most).2.1) (by rw [← h0])
    exact ⟨h1, h3, h2⟩
  have F : (Form.flg b s.2.1 s.2.2).2.2 = 0 → s.2.2 = 0 ∧ b.drop s.2.1 = Form.flag (Form.flg b s.2.1 s.2.2).1 ++ b.drop (Form.flg b s.2.1 s.2.2).2.1 ∧ (Form.flg b s.2.1 s.2.2).2.1 = s.2.1 + (Form.flag (Form.flg b s.2.1 s.2.2).1).length := fun h0 => by
    obtain ⟨h1, h2, h3⟩ := Form.flg_good (b := b) (a := s.2.1) (e := s.2.2) (f := (Form.flg b s.2.1 s.2.2).1) (a' := (Form.flg b s.2.1 s.2.2).2.1) (by rw [← h0])
    exact ⟨h1, h3, by rw [h2]; cases (Form.flg b s.2.1 s.2.2).1 <;> rfl⟩
  unfold rdL piece at *
  by_cases c1 : c = 97
  · simp only [if_pos c1] at h ⊢; exact N _ h
  simp only [if_neg c1] at h ⊢
  by_cases c2 : c = 99
  · simp only [if_pos c2] at h ⊢; exact N _ h
  simp only [if_neg c2] at h ⊢
  by_cases c3 : c = 110
  · simp only [if_pos c3] at h ⊢; exact N _ h
  simp only [if_neg c3] at h ⊢
  by_cases c4 : c = 109
  · simp only [if_pos c4, Form.fold_unfold] at h ⊢; exact N _ h
  simp only [if_neg c4] at h ⊢
  by_cases c5 : c = 115
  · simp only [if_pos c5] at h ⊢; exact Sp.got_good b s.2.1 s.2.2 h
  simp only [if_neg c5] at h ⊢
  by_cases c6 : c = 111
  · simp only [if_pos c6] at h ⊢; exact F h
  simp only [if_neg c6] at h ⊢
  by_cases c7 : c = 98
  · simp only [if_pos c7] at h ⊢; exact F h
  simp only [if_neg c7] at h ⊢
  by_cases c8 : c = 107
  · simp only [if_pos c8] at h ⊢; exact N _ h
  simp only [if_neg c8] at h ⊢
  by_cases c9 : c = 112
  · simp only [if_pos c9, Form.fold_unfold] at h ⊢; exact N _ h
  simp only [if_neg c9] at h ⊢
  by_cases c10 : c = 113
  · simp only [if_pos c10, Form.fold_unfold] at h ⊢; exact N _ h
  simp only [if_neg c10] at h ⊢
  exact ⟨h, rfl, rfl⟩
theorem rdAll_good (b : List UInt8) : ∀ (l : List UInt8) (s : St), l.Nodup → (l.foldl (rdL b) s).2.2 = 0 →
    s.2.2 = 0 ∧ b.drop s.2.1 = l.flatMap (l.foldl (rdL b) s).1.piece ++ b.drop (l.foldl (rdL b) s).2.1 ∧ (l.foldl (rdL b) s).2.1 = s.2.1 + (l.flatMap (l.foldl (rdL b) s).1.piece).length
  | [], s, _, h => ⟨h, rfl, rfl⟩
  | c :: l, s, hn, h => by
    obtain ⟨hc, hn2⟩ := List.nodup_cons.1 hn
    rw [List.foldl_cons] at h ⊢
    obtain ⟨h1, h2, h3⟩ := rdAll_good b l (rdL b s c) hn2 h
    obtain ⟨k1, k2, k3⟩ := rdL_good b s c h1
    have hp := piece_fold b c l (rdL b s c) hc
    refine ⟨k1, ?_, ?_⟩
    · rw [List.flatMap_cons, hp, List.append_assoc, ← h2]; exact k2
    · rw [List.flatMap_cons, List.length_append, hp, h3, k3, Nat.add_assoc]
theorem flds_nodup (k : Nat) : (flds k).Nodup := by
  unfold flds
  repeat' split
  all_goals simp
theorem rdL_at (b : List UInt8) (s : St) (c : UInt8) (h : s.2.1 ≤ b.length) : (rdL b s c).2.1 ≤ b.length := by
  have N : ∀ most, (Form.small b s.2.1 s.2.2 most).2.1 ≤ b.length := fun most => Go.Proofs.Ytoflehlkacofjaa.small_at h
  have F : (Form.flg b s.2.1 s.2.2).2.1 ≤ b.length := Go.Proofs.Ytoflehlkacofjaa.flg_at h
  have T : (Form.rst b s.2.1 s.2.2 25).1 ≤ b.length := Form.rst_le b _ _ h 25
  rcases rdL_ways b s c with ⟨rfl, e⟩ | ⟨rfl, e⟩ | ⟨rfl, e⟩ | ⟨rfl, e⟩ | ⟨rfl, e⟩ | ⟨rfl, e⟩ | ⟨rfl, e⟩ | ⟨rfl, e⟩ | ⟨rfl, e⟩ | ⟨rfl, e⟩ | e
  all_goals rw [e]
  all_goals first | exact N _ | exact F | exact T | exact h
theorem fold_at (b : List UInt8) : ∀ (l : List UInt8) (s : St), s.2.1 ≤ b.length → (l.foldl (rdL b) s).2.1 ≤ b.length
  | [], _, h => h
  | c :: l, s, h => by rw [List.foldl_cons]; exact fold_at b l _ (rdL_at b s c h)
theorem rd_at (b : List UInt8) : (rd b).2.1 ≤ b.length := fold_at b _ _ (Go.Proofs.Ytoflehlkacofjaa.small_at (Nat.zero_le _))
/-- ONE FORM: what is read well is its form. -/
theorem rd_good (b : List UInt8) (h : rdOk b = true) : (rd b).1.form = b ∧ (rd b).1.mayB = true := by
  unfold rdOk at h
  simp only [Bool.and_eq_true, decide_eq_true_eq] at h
  obtain ⟨h1, h2⟩ := h
  refine ⟨?_, h2⟩
  have ha := rd_at b
  have he : (rd b).2.2 = 0 := by
    unfold Form.done at h1
    split at h1
    · simp at h1
    · exact h1
  have hl : (rd b).2.1 = b.length := by
    unfold Form.done at h1
    rw [he] at h1
    split at h1
    · simp at h1
    · rename_i hn
      have : ¬ (rd b).2.1 < b.length := fun hlt => hn ⟨rfl, hlt⟩
      omega
  have hf := rdAll_good b (flds (Form.small b 0 0 14).1) (rd0 b) (flds_nodup _) he
  obtain ⟨k1, k2, k3⟩ := hf
  have hs := Form.small_good (b := b) (a := 0) (e := 0) (most := 14) (n := (Form.small b 0 0 14).1) (a' := (Form.small b 0 0 14).2.1) (Prod.ext rfl (Prod.ext rfl k1))
  have hk : (rd b).1.kind = (Form.small b 0 0 14).1 := kind_fold b _ _
  unfold form
  rw [hk]
  have hr : (flds (Form.small b 0 0 14).1).foldl (rdL b) (rd0 b) = rd b := rfl
  rw [hr, hl, List.drop_length, List.append_nil] at k2
  have k2' : b.drop (Form.small b 0 0 14).2.1 = (flds (Form.small b 0 0 14).1).flatMap (rd b).1.piece := k2
  have h3 := hs.2.2
  rw [List.drop_zero] at h3
  rw [← k2']
  exact h3.symm
end Cm
end Go.Proofs.Ytoflehlkacofjaa
