/- Commands: their forms are read back; what is read well is its form. Plain. -/
import Derived.Test.YtoflehlkacofjaaQdB6
namespace Go.Proofs.Ytoflehlkacofjaa
open Go.ChangeShapes Go.WideShapes Go.ChangeAt Go.RowKit
set_option linter.unusedVariables false
namespace Form
theorem small_shift (b : List UInt8) (a0 a : Nat) (e : Int) (most : Nat) : small b (a0 + a) e most = ((small (b.drop a0) a e most).1, a0 + (small (b.drop a0) a e most).2.1, (small (b.drop a0) a e most).2.2) := by
  unfold small
  rw [List.drop_drop]
  by_cases h : e ≠ 0
  · rw [if_pos h, if_pos h]
  · rw [if_neg h, if_neg h]
    dsimp only
    split
    · split
      · rfl
      · simp only [Nat.add_assoc]
    · rfl
theorem rst_shift (b : List UInt8) (a0 : Nat) (e : Int) : ∀ i, rst b a0 e i = (a0 + (rst (b.drop a0) 0 e i).1, (rst (b.drop a0) 0 e i).2) := by
  intro i
  induction i with
  | zero => rfl
  | succ i ih =>
    show (small b (rst b a0 e i).1 (rst b a0 e i).2 (mst i)).2 = _
    rw [ih]
    show (small b (a0 + (rst (b.drop a0) 0 e i).1) _ (mst i)).2 = _
    rw [small_shift]
    rfl
theorem rv_shift (b : List UInt8) (a0 : Nat) (e : Int) (i : Nat) : rv b a0 e i = rv (b.drop a0) 0 e i := by
  unfold rv
  rw [rst_shift]
  show (small b (a0 + (rst (b.drop a0) 0 e i).1) _ (mst i)).1 = _
  rw [small_shift]
theorem flg_at (F rest : List UInt8) (f : Bool) (a : Nat) (h : F.drop a = flag f ++ rest) : flg F a 0 = (f, a + 1, 0) := by
  have hx : F[a]? = some (if f then 1 else 0) := by
    have := congrArg (·[0]?) h
    simp only [List.getElem?_drop, Nat.add_zero] at this
    rw [this]
    cases f <;> rfl
  unfold flg
  rw [if_neg (by simp), hx]
  cases f <;> rfl
end Form
namespace Sp
theorem taken_shift (b : List UInt8) (a0 : Nat) (e : Int) : taken b a0 e = taken (b.drop a0) 0 e := by
  unfold taken
  simp only [Form.rv_shift b a0 e]
/-- The data of a form, wherever it lies. -/
theorem got_form (b rest : List UInt8) (a : Nat) (s : Sp) (h : s.ok) (hm : s.mayB = true) (hd : b.drop a = s.form ++ rest) : (got b a 0).cells = s.cells ∧ Form.rst b a 0 25 = (a + s.form.length, 0) ∧ gotE b a 0 = 0 := by
  have ha := taken_form s rest h hm
  have hr := rst_form s rest h hm 25 (Nat.le_refl _)
  have ht : (taken b a 0).mayB = true := by rw [taken_shift, hd, ha.mayB]; exact hm
  have hr2 : Form.rst b a 0 25 = (a + s.form.length, 0) := by rw [Form.rst_shift, hd, hr, formN_form]
  refine ⟨?_, hr2, ?_⟩
  · unfold got; rw [if_pos ht, taken_shift, hd]; exact ha.cells
  · unfold gotE; rw [if_pos ht, hr2]
end Sp
namespace Cm
/-- A letter's field, copied. -/
def copyL (x y : Cm) (c : UInt8) : Cm :=
  if c = 97 then { y with account := x.account } else if c = 99 then { y with contract := x.contract } else if c = 110 then { y with number := x.number } else if c = 109 then { y with amount := x.amount } else if c = 115 then { y with spec := x.spec }
  else if c = 111 then { y with on := x.on } else if c = 98 then { y with buy := x.buy } else if c = 107 then { y with as_ := x.as_ } else if c = 112 then { y with price := x.price } else if c = 113 then { y with qty := x.qty } else y
theorem rdL_back (x : Cm) (hx : x.ok) (c : UInt8) (hm : c = 115 → x.spec.mayB = true) (b t : List UInt8) (a : Nat) (y z : Cm) (hyz : y.cells = z.cells) (h : b.drop a = x.piece c ++ t) :
    (rdL b (y, a, 0) c).1.cells = (copyL x z c).cells ∧ (rdL b (y, a, 0) c).2 = (a + (x.piece c).length, 0) := by
  obtain ⟨h0, h1, h2, h3, h4, h5, h6, h7, h8, h9, h10⟩ := fields_of hyz
  have e1 := hx.account; have e2 := hx.contract; have e3 := hx.number; have e8 := hx.as_
  have e4 := Form.fold_lt hx.amount.1 hx.amount.2
  have e9 := Form.fold_lt hx.price.1 hx.price.2
  have e10 := Form.fold_lt hx.qty.1 hx.qty.2
  unfold piece at h ⊢
  unfold rdL copyL
  by_cases c1 : c = 97
  · simp only [if_pos c1] at h ⊢
    rw [Form.small_at b t x.account a 4294967295 (by omega) (by decide) h]
    exact ⟨cells_of h0 rfl h2 h3 h4 h5 h6 h7 h8 h9 h10, rfl⟩
  simp only [if_neg c1] at h ⊢
  by_cases c2 : c = 99
  · simp only [if_pos c2] at h ⊢
    rw [Form.small_at b t x.contract a 4294967295 (by omega) (by decide) h]
    exact ⟨cells_of h0 h1 rfl h3 h4 h5 h6 h7 h8 h9 h10, rfl⟩
  simp only [if_neg c2] at h ⊢
  by_cases c3 : c = 110
  · simp only [if_pos c3] at h ⊢
    rw [Form.small_at b t x.number a 18446744073709551615 (by omega) (by decide) h]
    exact ⟨cells_of h0 h1 h2 rfl h4 h5 h6 h7 h8 h9 h10, rfl⟩
  simp only [if_neg c3] at h ⊢
  by_cases c4 : c = 109
  · simp only [if_pos c4] at h ⊢
    rw [Form.small_at b t (Form.fold x.amount) a 18446744073709551615 (by omega) (by decide) h, Form.unfold_fold]
    exact ⟨cells_of h0 h1 h2 h3 rfl h5 h6 h7 h8 h9 h10, rfl⟩
  simp only [if_neg c4] at h ⊢
  by_cases c5 : c = 115
  · simp only [if_pos c5] at h ⊢
    obtain ⟨g1, g2, g3⟩ := Sp.got_form b t a x.spec hx.spec (hm c5) h
    refine ⟨cells_of h0 h1 h2 h3 h4 g1 h6 h7 h8 h9 h10, ?_⟩
    show ((Form.rst b a 0 25).1, Sp.gotE b a 0) = _
    rw [g2, g3]
  simp only [if_neg c5] at h ⊢
  by_cases c6 : c = 111
  · simp only [if_pos c6] at h ⊢
    rw [Form.flg_at b t x.on a h]
    exact ⟨cells_of h0 h1 h2 h3 h4 h5 rfl h7 h8 h9 h10, by cases x.on <;> rfl⟩
  simp only [if_neg c6] at h ⊢
  by_cases c7 : c = 98
  · simp only [if_pos c7] at h ⊢
    rw [Form.flg_at b t x.buy a h]
    exact ⟨cells_of h0 h1 h2 h3 h4 h5 h6 rfl h8 h9 h10, by cases x.buy <;> rfl⟩
  simp only [if_neg c7] at h ⊢
  by_cases c8 : c = 107
  · simp only [if_pos c8] at h ⊢
    rw [Form.small_at b t x.as_ a 255 (by omega) (by decide) h]
    exact ⟨cells_of h0 h1 h2 h3 h4 h5 h6 h7 rfl h9 h10, rfl⟩
  simp only [if_neg c8] at h ⊢
  by_cases c9 : c = 112
  · simp only [if_pos c9] at h ⊢
    rw [Form.small_at b t (Form.fold x.price) a 18446744073709551615 (by omega) (by decide) h, Form.unfold_fold]
    exact ⟨cells_of h0 h1 h2 h3 h4 h5 h6 h7 h8 rfl h10, rfl⟩
  simp only [if_neg c9] at h ⊢
  by_cases c10 : c = 113
  · simp only [if_pos c10] at h ⊢
    rw [Form.small_at b t (Form.fold x.qty) a 18446744073709551615 (by omega) (by decide) h, Form.unfold_fold]
    exact ⟨cells_of h0 h1 h2 h3 h4 h5 h6 h7 h8 h9 rfl, rfl⟩
  simp only [if_neg c10] at h ⊢
  exact ⟨hyz, rfl⟩
theorem rdAll_back (x : Cm) (hx : x.ok) (b t : List UInt8) : ∀ (l : List UInt8) (a : Nat) (y z : Cm), (115 ∈ l → x.spec.mayB = true) → y.cells = z.cells → b.drop a = l.flatMap x.piece ++ t →
    (l.foldl (rdL b) (y, a, 0)).1.cells = (l.foldl (copyL x) z).cells ∧ (l.foldl (rdL b) (y, a, 0)).2 = (a + (l.flatMap x.piece).length, 0)
  | [], a, y, z, _, hyz, _ => ⟨hyz, rfl⟩
  | c :: l, a, y, z, hm, hyz, h => by
    rw [List.flatMap_cons, List.append_assoc] at h
    obtain ⟨h1, h2⟩ := rdL_back x hx c (fun e => hm (by subst e; exact List.mem_cons_self ..)) b _ a y z hyz h
    have hd : b.drop (a + (x.piece c).length) = l.flatMap x.piece ++ t := by
      rw [← List.drop_drop, h, List.drop_left]
    obtain ⟨y1, hy1⟩ : ∃ y1, (rdL b (y, a, 0) c).1 = y1 := ⟨_, rfl⟩
    have hs : rdL b (y, a, 0) c = (y1, a + (x.piece c).length, 0) := by rw [← hy1, ← h2]
    rw [List.foldl_cons, List.foldl_cons, hs]
    rw [hy1] at h1
    obtain ⟨k1, k2⟩ := rdAll_back x hx b t l _ y1 _ (fun hmem => hm (List.mem_cons_of_mem _ hmem)) h1 hd
    refine ⟨k1, ?_⟩
    rw [k2, List.flatMap_cons, List.length_append, Nat.add_assoc]
theorem copy_bare (x : Cm) (h1 : 1 ≤ x.kind) (h2 : x.kind ≤ 14) : (flds x.kind).foldl (copyL x) (start x.kind) = x.bare := by
  obtain ⟨k, a, n, u, m, s, o, b, z, p, q⟩ := x
  dsimp only at *
  have hk : k = 1 ∨ k = 2 ∨ k = 3 ∨ k = 4 ∨ k = 5 ∨ k = 6 ∨ k = 7 ∨ k = 8 ∨ k = 9 ∨ k = 10 ∨ k = 11 ∨ k = 12 ∨ k = 13 ∨ k = 14 := by omega
  rcases hk with rfl | rfl | rfl | rfl | rfl | rfl | rfl | rfl | rfl | rfl | rfl | rfl | rfl | rfl <;> rfl
theorem spec_letter (k : Nat) (h : 115 ∈ flds k) : k = 3 := by
  unfold flds at h
  by_cases hk : k = 3
  · exact hk
  · exfalso
    revert h
    repeat' split
    all_goals first | decide | (exact absurd (by assumption) hk)
/-- THERE AND BACK, with whatever behind it. -/
theorem rd_form (x : Cm) (hx : x.ok) (hm : x.mayB = true) (t : List UInt8) : (rd (x.form ++ t)).1.cells = x.cells ∧ (rd (x.form ++ t)).2 = (x.form.length, 0) := by
  obtain ⟨h1, h2, h3, h4⟩ := may_open hm
  have hd : (x.form ++ t).drop 0 = Form.nat x.kind ++ ((flds x.kind).flatMap x.piece ++ t) := by unfold form; rw [List.drop_zero, List.append_assoc]
  have hs := Form.small_at (x.form ++ t) _ x.kind 0 14 h2 (by decide) hd
  have hd2 : (x.form ++ t).drop (0 + (Form.nat x.kind).length) = (flds x.kind).flatMap x.piece ++ t := by rw [← List.drop_drop, hd, List.drop_left]
  obtain ⟨k1, k2⟩ := rdAll_back x hx (x.form ++ t) t (flds x.kind) _ (start x.kind) (start x.kind) (fun h => h4 (spec_letter _ h)) rfl hd2
  unfold rd rd0
  rw [hs]
  refine ⟨?_, ?_⟩
  · rw [k1, copy_bare x h1 h2]; exact ((same_iff _ _).1 h3).symm
  · rw [k2]; unfold form; rw [List.length_append]; simp
end Cm
end Go.Proofs.Ytoflehlkacofjaa
