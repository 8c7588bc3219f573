/- Commands, and replies, that may be have one form just if they are alike (no program in sight). -/
import Derived.Test.YtoflehlkacofjaaQfA13
namespace Go.Proofs.Ytoflehlkacofjaa
open Go.ChangeShapes Go.WideShapes Go.ChangeAt Go.RowKit
set_option linter.unusedVariables false
theorem nat_inj {a b : Nat} (h : Form.nat a = Form.nat b) : a = b := (Form.nat_begins b a [] [] (by rw [h])).1
theorem flag_begins {f g : Bool} {x y : List UInt8} (h : Form.flag f ++ x = Form.flag g ++ y) : f = g ∧ x = y := by
  cases f <;> cases g <;> simp_all [Form.flag]
theorem Sp.sameB_iff (s t : Sp) : s.sameB t = true ↔ s.cells = t.cells := by
  unfold Sp.sameB Sp.cells
  simp only [Array.mk.injEq, List.cons.injEq, Value.int.injEq, true_and, and_true, Bool.and_eq_true, beq_iff_eq, List.all_eq_true, List.mem_range, Bool.and_true]
  constructor
  · rintro ⟨s1, s2, s3, s4, s5, s6, hs, s7, s8, s9⟩
    exact ⟨s1, s2, s3, s4, s5, s6, hs 0 (by decide), hs 1 (by decide), hs 2 (by decide), hs 3 (by decide), hs 4 (by decide), hs 5 (by decide), hs 6 (by decide), hs 7 (by decide), hs 8 (by decide), hs 9 (by decide), hs 10 (by decide), hs 11 (by decide), hs 12 (by decide), hs 13 (by decide), hs 14 (by decide), hs 15 (by decide), s7, s8, s9⟩
  · rintro ⟨s1, s2, s3, s4, s5, s6, c0, c1, c2, c3, c4, c5, c6, c7, c8, c9, c10, c11, c12, c13, c14, c15, s7, s8, s9⟩
    refine ⟨s1, s2, s3, s4, s5, s6, fun k hk => ?_, s7, s8, s9⟩
    have h : k = 0 ∨ k = 1 ∨ k = 2 ∨ k = 3 ∨ k = 4 ∨ k = 5 ∨ k = 6 ∨ k = 7 ∨ k = 8 ∨ k = 9 ∨ k = 10 ∨ k = 11 ∨ k = 12 ∨ k = 13 ∨ k = 14 ∨ k = 15 := by omega
    rcases h with rfl | rfl | rfl | rfl | rfl | rfl | rfl | rfl | rfl | rfl | rfl | rfl | rfl | rfl | rfl | rfl <;> assumption
/-- Forms of data that may be are one just if the data are. -/
theorem Sp.form_inj {s t : Sp} (hs : s.ok) (ht : t.ok) (ms : s.mayB = true) (mt : t.mayB = true) (h : s.form = t.form) : s.cells = t.cells := by
  have h1 := (Sp.taken_form s [] hs ms).cells
  have h2 := (Sp.taken_form t [] ht mt).cells
  rw [← h1, ← h2, h]
/-- What fits in no kind's fields is zero. -/
theorem Cm.bare_open {x : Cm} (h : x.same x.bare = true) : (hasA x.kind = false → x.account = 0) ∧ (hasC x.kind = false → x.contract = 0) ∧ (hasN x.kind = false → x.number = 0) ∧ (hasM x.kind = false → x.amount = 0) ∧ (hasS x.kind = false → x.spec.cells = Sp.zero.cells) ∧ (hasO x.kind = false → x.on = false) ∧ (hasB x.kind = false → x.buy = false) ∧ (hasK x.kind = false → x.as_ = 0) ∧ (hasP x.kind = false → x.price = 0) ∧ (hasQ x.kind = false → x.qty = 0) := by
  unfold Cm.same at h
  simp only [Bool.and_eq_true, beq_iff_eq, Bool.and_true] at h
  obtain ⟨_, h1, h2, h3, h4, h5, h6, h7, h8, h9, h10⟩ := h
  refine ⟨fun e => ?_, fun e => ?_, fun e => ?_, fun e => ?_, fun e => ?_, fun e => ?_, fun e => ?_, fun e => ?_, fun e => ?_, fun e => ?_⟩
  · simp only [Cm.bare, e] at h1; simpa using h1
  · simp only [Cm.bare, e] at h2; simpa using h2
  · simp only [Cm.bare, e] at h3; simpa using h3
  · simp only [Cm.bare, e] at h4; simpa using h4
  · simp only [Cm.bare, e] at h5; exact (Sp.sameB_iff _ _).1 (by simpa using h5)
  · simp only [Cm.bare, e] at h6; simpa using h6
  · simp only [Cm.bare, e] at h7; simpa using h7
  · simp only [Cm.bare, e] at h8; simpa using h8
  · simp only [Cm.bare, e] at h9; simpa using h9
  · simp only [Cm.bare, e] at h10; simpa using h10
/-- Cells field by field. -/
theorem Cm.cells_of {x y : Cm} (h0 : x.kind = y.kind) (h1 : x.account = y.account) (h2 : x.contract = y.contract) (h3 : x.number = y.number) (h4 : x.amount = y.amount) (h5 : x.spec.cells = y.spec.cells) (h6 : x.on = y.on) (h7 : x.buy = y.buy) (h8 : x.as_ = y.as_) (h9 : x.price = y.price) (h10 : x.qty = y.qty) : x.cells = y.cells := by
  refine (Cm.same_iff x y).1 ?_
  unfold Cm.same
  rw [h0, h1, h2, h3, h4, h6, h7, h8, h9, h10, (Sp.sameB_iff _ _).2 h5]
  simp
theorem Cm.fields_of {x y : Cm} (h : x.cells = y.cells) : x.kind = y.kind ∧ x.account = y.account ∧ x.contract = y.contract ∧ x.number = y.number ∧ x.amount = y.amount ∧ x.spec.cells = y.spec.cells ∧ x.on = y.on ∧ x.buy = y.buy ∧ x.as_ = y.as_ ∧ x.price = y.price ∧ x.qty = y.qty := by
  have h' := (Cm.same_iff x y).2 h
  unfold Cm.same at h'
  simp only [Bool.and_eq_true, beq_iff_eq, Bool.and_true, Sp.sameB_iff] at h'
  obtain ⟨g0, g1, g2, g3, g4, g5, g6, g7, g8, g9, g10⟩ := h'
  exact ⟨by omega, by omega, by omega, by omega, g4, g5, g6, g7, by omega, g9, g10⟩
/-- Two commands that may be have one form just if they are alike. -/
theorem Cm.form_inj {x y : Cm} (hx : x.ok) (hy : y.ok) (mx : x.mayB = true) (my : y.mayB = true) (h : x.form = y.form) : x.cells = y.cells := by
  obtain ⟨m1, m2, m3, m4⟩ := Cm.may_open mx
  obtain ⟨n1, n2, n3, n4⟩ := Cm.may_open my
  obtain ⟨zA, zC_, zN, zM, zS, zO, zB, zK, zP, zQ⟩ := Cm.bare_open m3
  obtain ⟨yA, yC_, yN, yM, yS, yO, yB, yK, yP, yQ⟩ := Cm.bare_open n3
  have hk : x.kind = y.kind := by
    unfold Cm.form at h
    exact (Form.nat_begins _ _ _ _ h).1
  obtain ⟨k, a, n, u, m, s, o, b, z, p, q⟩ := x
  obtain ⟨k', a', n', u', m', s', o', b', z', p', q'⟩ := y
  dsimp only at *
  subst hk
  clear m3 n3 mx my n1 n2
  have hw : k = 1 ∨ k = 2 ∨ k = 3 ∨ k = 4 ∨ k = 5 ∨ k = 6 ∨ k = 7 ∨ k = 8 ∨ k = 9 ∨ k = 10 ∨ k = 11 ∨ k = 12 ∨ k = 13 ∨ k = 14 := by omega
  rcases hw with rfl | rfl | rfl | rfl | rfl | rfl | rfl | rfl | rfl | rfl | rfl | rfl | rfl | rfl
  · rw [form_1, form_1] at h
    simp only [List.append_assoc] at h
    obtain ⟨_, h⟩ := Form.nat_begins _ _ _ _ h
    obtain ⟨eA, h⟩ := Form.nat_begins _ _ _ _ h
    have eM := nat_inj h
    exact Cm.cells_of rfl eA ((zC_ rfl).trans (yC_ rfl).symm) ((zN rfl).trans (yN rfl).symm) (Form.fold_inj eM) ((zS rfl).trans (yS rfl).symm) ((zO rfl).trans (yO rfl).symm) ((zB rfl).trans (yB rfl).symm) ((zK rfl).trans (yK rfl).symm) ((zP rfl).trans (yP rfl).symm) ((zQ rfl).trans (yQ rfl).symm)
  · rw [form_2, form_2] at h
    simp only [List.append_assoc] at h
    obtain ⟨_, h⟩ := Form.nat_begins _ _ _ _ h
    obtain ⟨eA, h⟩ := Form.nat_begins _ _ _ _ h
    have eM := nat_inj h
    exact Cm.cells_of rfl eA ((zC_ rfl).trans (yC_ rfl).symm) ((zN rfl).trans (yN rfl).symm) (Form.fold_inj eM) ((zS rfl).trans (yS rfl).symm) ((zO rfl).trans (yO rfl).symm) ((zB rfl).trans (yB rfl).symm) ((zK rfl).trans (yK rfl).symm) ((zP rfl).trans (yP rfl).symm) ((zQ rfl).trans (yQ rfl).symm)
  · rw [form_3, form_3] at h
    obtain ⟨_, h⟩ := Form.nat_begins _ _ _ _ h
    have eS := Sp.form_inj hx.spec hy.spec (m4 rfl) (n4 rfl) h
    exact Cm.cells_of rfl ((zA rfl).trans (yA rfl).symm) ((zC_ rfl).trans (yC_ rfl).symm) ((zN rfl).trans (yN rfl).symm) ((zM rfl).trans (yM rfl).symm) eS ((zO rfl).trans (yO rfl).symm) ((zB rfl).trans (yB rfl).symm) ((zK rfl).trans (yK rfl).symm) ((zP rfl).trans (yP rfl).symm) ((zQ rfl).trans (yQ rfl).symm)
  · rw [form_4, form_4] at h
    simp only [List.append_assoc] at h
    obtain ⟨_, h⟩ := Form.nat_begins _ _ _ _ h
    obtain ⟨eC, h⟩ := Form.nat_begins _ _ _ _ h
    have eO := (flag_begins (f := o) (g := o') (x := []) (y := []) (by rw [h])).1
    exact Cm.cells_of rfl ((zA rfl).trans (yA rfl).symm) eC ((zN rfl).trans (yN rfl).symm) ((zM rfl).trans (yM rfl).symm) ((zS rfl).trans (yS rfl).symm) eO ((zB rfl).trans (yB rfl).symm) ((zK rfl).trans (yK rfl).symm) ((zP rfl).trans (yP rfl).symm) ((zQ rfl).trans (yQ rfl).symm)
  · rw [form_5, form_5] at h
    simp only [List.append_assoc] at h
    obtain ⟨_, h⟩ := Form.nat_begins _ _ _ _ h
    obtain ⟨eA, h⟩ := Form.nat_begins _ _ _ _ h
    obtain ⟨eC, h⟩ := Form.nat_begins _ _ _ _ h
    obtain ⟨eB, h⟩ := flag_begins h
    obtain ⟨eK, h⟩ := Form.nat_begins _ _ _ _ h
    obtain ⟨eP, h⟩ := Form.nat_begins _ _ _ _ h
    have eQ := nat_inj h
    exact Cm.cells_of rfl eA eC ((zN rfl).trans (yN rfl).symm) ((zM rfl).trans (yM rfl).symm) ((zS rfl).trans (yS rfl).symm) ((zO rfl).trans (yO rfl).symm) eB eK (Form.fold_inj eP) (Form.fold_inj eQ)
  · rw [form_6, form_6] at h
    simp only [List.append_assoc] at h
    obtain ⟨_, h⟩ := Form.nat_begins _ _ _ _ h
    obtain ⟨eA, h⟩ := Form.nat_begins _ _ _ _ h
    have eN := nat_inj h
    exact Cm.cells_of rfl eA ((zC_ rfl).trans (yC_ rfl).symm) eN ((zM rfl).trans (yM rfl).symm) ((zS rfl).trans (yS rfl).symm) ((zO rfl).trans (yO rfl).symm) ((zB rfl).trans (yB rfl).symm) ((zK rfl).trans (yK rfl).symm) ((zP rfl).trans (yP rfl).symm) ((zQ rfl).trans (yQ rfl).symm)
  · rw [form_7, form_7] at h
    simp only [List.append_assoc] at h
    obtain ⟨_, h⟩ := Form.nat_begins _ _ _ _ h
    obtain ⟨eA, h⟩ := Form.nat_begins _ _ _ _ h
    obtain ⟨eN, h⟩ := Form.nat_begins _ _ _ _ h
    obtain ⟨eP, h⟩ := Form.nat_begins _ _ _ _ h
    have eQ := nat_inj h
    exact Cm.cells_of rfl eA ((zC_ rfl).trans (yC_ rfl).symm) eN ((zM rfl).trans (yM rfl).symm) ((zS rfl).trans (yS rfl).symm) ((zO rfl).trans (yO rfl).symm) ((zB rfl).trans (yB rfl).symm) ((zK rfl).trans (yK rfl).symm) (Form.fold_inj eP) (Form.fold_inj eQ)
  · rw [form_8, form_8] at h
    simp only [List.append_assoc] at h
    obtain ⟨_, h⟩ := Form.nat_begins _ _ _ _ h
    obtain ⟨eA, h⟩ := Form.nat_begins _ _ _ _ h
    have eC := nat_inj h
    exact Cm.cells_of rfl eA eC ((zN rfl).trans (yN rfl).symm) ((zM rfl).trans (yM rfl).symm) ((zS rfl).trans (yS rfl).symm) ((zO rfl).trans (yO rfl).symm) ((zB rfl).trans (yB rfl).symm) ((zK rfl).trans (yK rfl).symm) ((zP rfl).trans (yP rfl).symm) ((zQ rfl).trans (yQ rfl).symm)
  · rw [form_9, form_9] at h
    simp only [List.append_assoc] at h
    obtain ⟨_, h⟩ := Form.nat_begins _ _ _ _ h
    obtain ⟨eA, h⟩ := Form.nat_begins _ _ _ _ h
    obtain ⟨eC, h⟩ := Form.nat_begins _ _ _ _ h
    obtain ⟨eB, h⟩ := flag_begins h
    obtain ⟨eP, h⟩ := Form.nat_begins _ _ _ _ h
    have eQ := nat_inj h
    exact Cm.cells_of rfl eA eC ((zN rfl).trans (yN rfl).symm) ((zM rfl).trans (yM rfl).symm) ((zS rfl).trans (yS rfl).symm) ((zO rfl).trans (yO rfl).symm) eB ((zK rfl).trans (yK rfl).symm) (Form.fold_inj eP) (Form.fold_inj eQ)
  · rw [form_10, form_10] at h
    simp only [List.append_assoc] at h
    obtain ⟨_, h⟩ := Form.nat_begins _ _ _ _ h
    obtain ⟨eA, h⟩ := Form.nat_begins _ _ _ _ h
    have eO := (flag_begins (f := o) (g := o') (x := []) (y := []) (by rw [h])).1
    exact Cm.cells_of rfl eA ((zC_ rfl).trans (yC_ rfl).symm) ((zN rfl).trans (yN rfl).symm) ((zM rfl).trans (yM rfl).symm) ((zS rfl).trans (yS rfl).symm) eO ((zB rfl).trans (yB rfl).symm) ((zK rfl).trans (yK rfl).symm) ((zP rfl).trans (yP rfl).symm) ((zQ rfl).trans (yQ rfl).symm)
  · rw [form_11, form_11] at h
    simp only [List.append_assoc] at h
    obtain ⟨_, h⟩ := Form.nat_begins _ _ _ _ h
    obtain ⟨eC, h⟩ := Form.nat_begins _ _ _ _ h
    have eP := nat_inj h
    exact Cm.cells_of rfl ((zA rfl).trans (yA rfl).symm) eC ((zN rfl).trans (yN rfl).symm) ((zM rfl).trans (yM rfl).symm) ((zS rfl).trans (yS rfl).symm) ((zO rfl).trans (yO rfl).symm) ((zB rfl).trans (yB rfl).symm) ((zK rfl).trans (yK rfl).symm) (Form.fold_inj eP) ((zQ rfl).trans (yQ rfl).symm)
  · rw [form_12, form_12] at h
    exact Cm.cells_of rfl ((zA rfl).trans (yA rfl).symm) ((zC_ rfl).trans (yC_ rfl).symm) ((zN rfl).trans (yN rfl).symm) ((zM rfl).trans (yM rfl).symm) ((zS rfl).trans (yS rfl).symm) ((zO rfl).trans (yO rfl).symm) ((zB rfl).trans (yB rfl).symm) ((zK rfl).trans (yK rfl).symm) ((zP rfl).trans (yP rfl).symm) ((zQ rfl).trans (yQ rfl).symm)
  · rw [form_13, form_13] at h
    obtain ⟨_, h⟩ := Form.nat_begins _ _ _ _ h
    have eA := nat_inj h
    exact Cm.cells_of rfl eA ((zC_ rfl).trans (yC_ rfl).symm) ((zN rfl).trans (yN rfl).symm) ((zM rfl).trans (yM rfl).symm) ((zS rfl).trans (yS rfl).symm) ((zO rfl).trans (yO rfl).symm) ((zB rfl).trans (yB rfl).symm) ((zK rfl).trans (yK rfl).symm) ((zP rfl).trans (yP rfl).symm) ((zQ rfl).trans (yQ rfl).symm)
  · rw [form_14, form_14] at h
    obtain ⟨_, h⟩ := Form.nat_begins _ _ _ _ h
    have eC := nat_inj h
    exact Cm.cells_of rfl ((zA rfl).trans (yA rfl).symm) eC ((zN rfl).trans (yN rfl).symm) ((zM rfl).trans (yM rfl).symm) ((zS rfl).trans (yS rfl).symm) ((zO rfl).trans (yO rfl).symm) ((zB rfl).trans (yB rfl).symm) ((zK rfl).trans (yK rfl).symm) ((zP rfl).trans (yP rfl).symm) ((zQ rfl).trans (yQ rfl).symm)
/-! ### Replies -/
theorem flatN_begins : ∀ (xs ys : List Nat) (a b : List UInt8), xs.length = ys.length → xs.flatMap Form.nat ++ a = ys.flatMap Form.nat ++ b → xs = ys ∧ a = b
  | [], [], a, b, _, h => ⟨rfl, h⟩
  | x :: xs, y :: ys, a, b, hl, h => by
    simp only [List.flatMap_cons, List.append_assoc] at h
    obtain ⟨e, h⟩ := Form.nat_begins _ _ _ _ h
    obtain ⟨e2, h⟩ := flatN_begins xs ys a b (by simpa using hl) h
    exact ⟨by rw [e, e2], h⟩
  | [], _ :: _, _, _, hl, _ => by simp at hl
  | _ :: _, [], _, _, hl, _ => by simp at hl
theorem natsN_begins {xs ys : List Nat} {a b : List UInt8} (h : natsN xs ++ a = natsN ys ++ b) : xs = ys ∧ a = b := by
  unfold natsN at h
  simp only [List.append_assoc] at h
  obtain ⟨e, h⟩ := Form.nat_begins _ _ _ _ h
  exact flatN_begins xs ys a b e h
theorem Tr.form_begins {x y : Tr} {a b : List UInt8} (h : x.form ++ a = y.form ++ b) : x = y ∧ a = b := by
  unfold Tr.form at h
  simp only [List.append_assoc] at h
  obtain ⟨e1, h⟩ := Form.nat_begins _ _ _ _ h
  obtain ⟨e2, h⟩ := Form.nat_begins _ _ _ _ h
  obtain ⟨e3, h⟩ := Form.nat_begins _ _ _ _ h
  obtain ⟨e4, hf⟩ := Form.nat_begins _ _ _ _ h
  clear h
  obtain ⟨p, q, n, c⟩ := x
  obtain ⟨p', q', n', c'⟩ := y
  dsimp only at *
  exact ⟨by rw [Form.fold_inj e1, Form.fold_inj e2, e3, e4], hf⟩
theorem flatT_begins : ∀ (xs ys : List Tr) (a b : List UInt8), xs.length = ys.length → xs.flatMap Tr.form ++ a = ys.flatMap Tr.form ++ b → xs = ys ∧ a = b
  | [], [], a, b, _, h => ⟨rfl, h⟩
  | x :: xs, y :: ys, a, b, hl, h => by
    simp only [List.flatMap_cons, List.append_assoc] at h
    obtain ⟨e, h⟩ := Tr.form_begins h
    obtain ⟨e2, h⟩ := flatT_begins xs ys a b (by simpa using hl) h
    exact ⟨by rw [e, e2], h⟩
  | [], _ :: _, _, _, hl, _ => by simp at hl
  | _ :: _, [], _, _, hl, _ => by simp at hl
theorem natsT_begins {xs ys : List Tr} {a b : List UInt8} (h : natsT xs ++ a = natsT ys ++ b) : xs = ys ∧ a = b := by
  unfold natsT at h
  simp only [List.append_assoc] at h
  obtain ⟨e, h⟩ := Form.nat_begins _ _ _ _ h
  exact flatT_begins xs ys a b e h
theorem Rp.may_err {x : Rp} (h : x.mayB = true) (h0 : x.errno ≠ 0) : x = ⟨x.errno, 0, 0, 0, [], [], []⟩ := by
  unfold Rp.mayB mayRB at h
  simp only [Bool.and_eq_true, decide_eq_true_eq, Bool.or_eq_true] at h
  have he := h.2.2.1.resolve_left h0
  unfold emptyB at he
  simp only [Bool.and_eq_true, decide_eq_true_eq] at he
  obtain ⟨a, b, c, d, e, f, g⟩ := x
  dsimp only at *
  obtain ⟨h1, h2, h3, h4⟩ := he
  have t1 : e = [] := List.eq_nil_of_length_eq_zero (by omega)
  have t2 : f = [] := List.eq_nil_of_length_eq_zero (by omega)
  have t3 : g = [] := List.eq_nil_of_length_eq_zero (by omega)
  rw [h1, h2, h3, t1, t2, t3]
theorem Rp.form_inj {x y : Rp} (mx : x.mayB = true) (my : y.mayB = true) (h : x.form = y.form) : x = y := by
  obtain ⟨m1, m2, _⟩ := mayR_open mx
  obtain ⟨n1, n2, _⟩ := mayR_open my
  unfold Rp.form at h
  by_cases h0 : x.errno = 0
  · by_cases k0 : y.errno = 0
    · rw [if_pos h0, if_pos k0] at h
      simp only [List.append_assoc] at h
      obtain ⟨_, h⟩ := Form.nat_begins _ _ _ _ h
      obtain ⟨e1, h⟩ := Form.nat_begins _ _ _ _ h
      obtain ⟨e2, h⟩ := Form.nat_begins _ _ _ _ h
      obtain ⟨e3, h⟩ := Form.nat_begins _ _ _ _ h
      obtain ⟨e4, h⟩ := natsT_begins h
      obtain ⟨e5, h⟩ := natsN_begins h
      obtain ⟨e6, _⟩ := natsN_begins (xs := x.accounts) (ys := y.accounts) (a := []) (b := []) (by rw [h])
      exact Rp.ext_iff'.2 ⟨h0.trans k0.symm, e1, Form.fold_inj e2, Form.fold_inj e3, e4, e5, e6⟩
    · rw [if_pos h0, if_neg k0] at h
      simp only [List.append_assoc] at h
      have h' := h.trans (List.append_nil (Form.nat y.errno.toNat)).symm
      have := (Form.nat_begins _ _ _ _ h').1
      omega
  · by_cases k0 : y.errno = 0
    · rw [if_neg h0, if_pos k0] at h
      simp only [List.append_assoc] at h
      have h' := (List.append_nil (Form.nat x.errno.toNat)).trans h
      have := (Form.nat_begins _ _ _ _ h').1
      omega
    · rw [if_neg h0, if_neg k0] at h
      have e := nat_inj h
      rw [Rp.may_err mx h0, Rp.may_err my k0, show x.errno = y.errno by omega]
end Go.Proofs.Ytoflehlkacofjaa
