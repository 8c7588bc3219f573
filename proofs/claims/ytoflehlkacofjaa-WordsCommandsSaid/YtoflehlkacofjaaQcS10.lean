/- Plain: forms are read back, and what is read is a form. -/
import Derived.Test.YtoflehlkacofjaaQcS9
namespace Go.Proofs.Ytoflehlkacofjaa
open Go.ChangeShapes Go.WideShapes Go.ChangeAt Go.RowKit
set_option linter.unusedVariables false
namespace Form
theorem small_at (F rest : List UInt8) (n a most : Nat) (hn : n ≤ most) (hm : most < 2 ^ 64) (h : F.drop a = nat n ++ rest) : small F a 0 most = (n, a + (nat n).length, 0) := by
  unfold small
  rw [if_neg (by simp), rd_back F rest n a (by omega) h]
  simp only [if_true]
  rw [if_neg (by omega)]
theorem u64_of {n : Int} (h0 : 0 ≤ n) (h : n < 18446744073709551616) : ((u64 n : Nat) : Int) = n := by unfold u64; omega
end Form
namespace Sp
/-- Two that agree in all that is seen. -/
structure Alike (s t : Sp) : Prop where
  number : s.number = t.number
  route : s.route = t.route
  tick : s.tick = t.tick
  lot : s.lot = t.lot
  band : s.band = t.band
  limit : s.limit = t.limit
  sh : ∀ i, i < 16 → s.sh i = t.sh i
  credit : s.credit = t.credit
  last : s.last = t.last
  first : s.first = t.first
theorem Alike.cells {s t : Sp} (h : Alike s t) : s.cells = t.cells := by
  unfold Sp.cells
  rw [h.number, h.route, h.tick, h.lot, h.band, h.limit, h.credit, h.last, h.first, h.sh 0 (by decide), h.sh 1 (by decide), h.sh 2 (by decide), h.sh 3 (by decide), h.sh 4 (by decide), h.sh 5 (by decide), h.sh 6 (by decide), h.sh 7 (by decide), h.sh 8 (by decide), h.sh 9 (by decide), h.sh 10 (by decide), h.sh 11 (by decide), h.sh 12 (by decide), h.sh 13 (by decide), h.sh 14 (by decide), h.sh 15 (by decide)]
theorem Alike.rows {s t : Sp} (h : Alike s t) : ∀ n, n ≤ 16 → s.all n = t.all n ∧ s.up n = t.up n ∧ s.down n = t.down n := by
  intro n
  induction n with
  | zero => intro _; exact ⟨rfl, rfl, rfl⟩
  | succ n ih =>
    intro hn
    obtain ⟨h1, h2, h3⟩ := ih (by omega)
    rw [all_succ, all_succ, up_succ, up_succ, down_succ, down_succ, h1, h2, h3, h.sh n (by omega)]
    exact ⟨rfl, rfl, rfl⟩
theorem Alike.mayB {s t : Sp} (h : Alike s t) : s.mayB = t.mayB := by
  obtain ⟨h1, h2, h3⟩ := h.rows 16 (Nat.le_refl _)
  unfold Sp.mayB
  rw [h1, h2, h3, h.number, h.route, h.tick, h.lot, h.band, h.limit, h.credit, h.first]

/-- Its i-th number. -/
def num (s : Sp) (i : Nat) : Nat := if i < 6 then Form.u64 (s.hd i) else if i < 22 then Form.fold (s.sh (i - 6)) else if i = 22 then Form.u64 s.credit else if i = 23 then Form.u64 s.last else Form.u64 s.first
def formN (s : Sp) (i : Nat) : List UInt8 := (List.range i).flatMap fun j => Form.nat (s.num j)
theorem formN_succ (s : Sp) (k : Nat) : s.formN (k + 1) = s.formN k ++ Form.nat (s.num k) := by unfold formN; rw [List.range_succ, List.flatMap_append]; simp
theorem formN_form (s : Sp) : s.formN 25 = s.form := by
  unfold formN form formA formB
  rw [show List.range 25 = [0, 1, 2, 3, 4, 5, 6, 7, 8, 9, 10, 11, 12, 13, 14, 15, 16, 17, 18, 19, 20, 21, 22, 23, 24] from rfl, show List.range 6 = [0, 1, 2, 3, 4, 5] from rfl, show List.range 16 = [0, 1, 2, 3, 4, 5, 6, 7, 8, 9, 10, 11, 12, 13, 14, 15] from rfl]
  simp only [List.flatMap_cons, List.flatMap_nil, List.append_assoc, List.append_nil]
  rfl
theorem formN_split (s : Sp) : ∀ n i, i < n → ∃ t, s.formN n = s.formN i ++ (Form.nat (s.num i) ++ t) := by
  intro n
  induction n with
  | zero => intro i h; omega
  | succ n ih =>
    intro i h
    by_cases hi : i = n
    · subst hi; exact ⟨[], by rw [formN_succ]; simp⟩
    · obtain ⟨t, ht⟩ := ih i (by omega)
      exact ⟨t ++ Form.nat (s.num n), by rw [formN_succ, ht]; simp only [List.append_assoc]⟩
theorem may_all {s : Sp} (h : s.mayB = true) : (1 ≤ s.number ∨ s.number ≠ 0) ∧ (1 ≤ s.route ∧ s.route ≤ 8) ∧ (1 ≤ s.tick ∧ s.tick ≤ 10000000) ∧ (1 ≤ s.lot ∧ s.lot ≤ 1000000) ∧ (0 ≤ s.band ∧ s.band ≤ 10000000) ∧ (1 ≤ s.limit ∧ s.limit ≤ 10000000) ∧ (0 ≤ s.credit ∧ s.credit ≤ 10000000) ∧ (1 ≤ s.first ∧ s.first ≤ 10000000) := by
  unfold mayB Form.priceB Form.inB at h
  simp only [Bool.and_eq_true, decide_eq_true_eq] at h
  omega
theorem num_ways (s : Sp) (i : Nat) (hi : i < 25) : (i = 0 ∧ s.num i = Form.u64 s.number) ∨ (i = 1 ∧ s.num i = Form.u64 s.route) ∨ (i = 2 ∧ s.num i = Form.u64 s.tick) ∨ (i = 3 ∧ s.num i = Form.u64 s.lot) ∨ (i = 4 ∧ s.num i = Form.u64 s.band) ∨ (i = 5 ∧ s.num i = Form.u64 s.limit) ∨
    (6 ≤ i ∧ i < 22 ∧ s.num i = Form.fold (s.sh (i - 6))) ∨ (i = 22 ∧ s.num i = Form.u64 s.credit) ∨ (i = 23 ∧ s.num i = Form.u64 s.last) ∨ (i = 24 ∧ s.num i = Form.u64 s.first) := by
  by_cases h6 : i < 6
  · have h : i = 0 ∨ i = 1 ∨ i = 2 ∨ i = 3 ∨ i = 4 ∨ i = 5 := by omega
    rcases h with rfl | rfl | rfl | rfl | rfl | rfl <;> simp [num, hd]
  · by_cases h22 : i < 22
    · have : s.num i = Form.fold (s.sh (i - 6)) := by unfold num; rw [if_neg h6, if_pos h22]
      exact .inr (.inr (.inr (.inr (.inr (.inr (.inl ⟨by omega, h22, this⟩))))))
    · have h : i = 22 ∨ i = 23 ∨ i = 24 := by omega
      rcases h with rfl | rfl | rfl <;> simp [num]
theorem mst_ways (i : Nat) (hi : i < 25) : (i = 0 ∧ Form.mst i = 4294967295) ∨ (i = 1 ∧ Form.mst i = 255) ∨ (2 ≤ i ∧ i < 6 ∧ Form.mst i = 9223372036854775807) ∨ (6 ≤ i ∧ i < 22 ∧ Form.mst i = 18446744073709551615) ∨ (i = 22 ∧ Form.mst i = 9223372036854775807) ∨ (i = 23 ∧ Form.mst i = 4294967295) ∨ (i = 24 ∧ Form.mst i = 9223372036854775807) := by
  unfold Form.mst
  repeat' split
  all_goals omega
theorem num_most (s : Sp) (h : s.ok) (hm : s.mayB = true) (i : Nat) (hi : i < 25) : s.num i ≤ Form.mst i := by
  have h1 := may_all hm
  have hn := h.number
  have hr := h.last
  obtain ⟨-, h3, h4, h5, h6, h7, h8, h9⟩ := h1
  have hu : ∀ x : Int, 0 ≤ x → x < 18446744073709551616 → Form.u64 x = x.toNat := fun x h0 h1 => by have := Form.u64_of h0 h1; omega
  rcases num_ways s i hi with ⟨e, q⟩ | ⟨e, q⟩ | ⟨e, q⟩ | ⟨e, q⟩ | ⟨e, q⟩ | ⟨e, q⟩ | ⟨e, e2, q⟩ | ⟨e, q⟩ | ⟨e, q⟩ | ⟨e, q⟩ <;> rw [q] <;> have h10 := mst_ways i hi
  · have := hu s.number (by omega) (by omega); omega
  · have := hu s.route (by omega) (by omega); omega
  · have := hu s.tick (by omega) (by omega); omega
  · have := hu s.lot (by omega) (by omega); omega
  · have := hu s.band (by omega) (by omega); omega
  · have := hu s.limit (by omega) (by omega); omega
  · have := Form.fold_lt (h.sh (i - 6)).1 (h.sh (i - 6)).2; omega
  · have := hu s.credit (by omega) (by omega); omega
  · have := hu s.last (by omega) (by omega); omega
  · have := hu s.first (by omega) (by omega); omega
theorem step_form (s : Sp) (rest : List UInt8) (h : s.ok) (hm : s.mayB = true) (i : Nat) (hi : i < 25) : Form.small (s.form ++ rest) (s.formN i).length 0 (Form.mst i) = (s.num i, (s.formN (i + 1)).length, 0) := by
  obtain ⟨t, ht⟩ := formN_split s 25 i hi
  rw [formN_form] at ht
  rw [Form.small_at (s.form ++ rest) (t ++ rest) (s.num i) _ _ (num_most s h hm i hi) (Form.mst_lt i) (by rw [ht]; simp only [List.append_assoc]; rw [List.drop_left])]
  rw [formN_succ, List.length_append]
theorem rst_form (s : Sp) (rest : List UInt8) (h : s.ok) (hm : s.mayB = true) : ∀ i, i ≤ 25 → Form.rst (s.form ++ rest) 0 0 i = ((s.formN i).length, 0) := by
  intro i
  induction i with
  | zero => intro _; rfl
  | succ i ih =>
    intro hi
    show (Form.small (s.form ++ rest) (Form.rst (s.form ++ rest) 0 0 i).1 (Form.rst (s.form ++ rest) 0 0 i).2 (Form.mst i)).2 = _
    rw [ih (by omega)]
    show (Form.small (s.form ++ rest) (s.formN i).length 0 (Form.mst i)).2 = _
    rw [step_form s rest h hm i (by omega)]
theorem rv_form (s : Sp) (rest : List UInt8) (h : s.ok) (hm : s.mayB = true) (i : Nat) (hi : i < 25) : Form.rv (s.form ++ rest) 0 0 i = s.num i := by
  unfold Form.rv
  rw [rst_form s rest h hm i (by omega)]
  show (Form.small (s.form ++ rest) (s.formN i).length 0 (Form.mst i)).1 = _
  rw [step_form s rest h hm i hi]
theorem taken_form (s : Sp) (rest : List UInt8) (h : s.ok) (hm : s.mayB = true) : Alike (taken (s.form ++ rest) 0 0) s := by
  have hr := rv_form s rest h hm
  have h1 := may_all hm
  have hn := h.number
  have hl := h.last
  obtain ⟨-, h3, h4, h5, h6, h7, h8, h9⟩ := h1
  refine ⟨?_, ?_, ?_, ?_, ?_, ?_, ?_, ?_, ?_, ?_⟩
  · show ((Form.rv (s.form ++ rest) 0 0 0 : Nat) : Int) = _; rw [hr 0 (by decide)]; exact Form.u64_of (n := s.number) (by omega) (by omega)
  · show ((Form.rv (s.form ++ rest) 0 0 1 : Nat) : Int) = _; rw [hr 1 (by decide)]; exact Form.u64_of (n := s.route) (by omega) (by omega)
  · show ((Form.rv (s.form ++ rest) 0 0 2 : Nat) : Int) = _; rw [hr 2 (by decide)]; exact Form.u64_of (n := s.tick) (by omega) (by omega)
  · show ((Form.rv (s.form ++ rest) 0 0 3 : Nat) : Int) = _; rw [hr 3 (by decide)]; exact Form.u64_of (n := s.lot) (by omega) (by omega)
  · show ((Form.rv (s.form ++ rest) 0 0 4 : Nat) : Int) = _; rw [hr 4 (by decide)]; exact Form.u64_of (n := s.band) (by omega) (by omega)
  · show ((Form.rv (s.form ++ rest) 0 0 5 : Nat) : Int) = _; rw [hr 5 (by decide)]; exact Form.u64_of (n := s.limit) (by omega) (by omega)
  · intro j hj
    show Form.unfold_ (Form.rv (s.form ++ rest) 0 0 (6 + j)) = _
    rw [hr (6 + j) (by omega)]
    have : s.num (6 + j) = Form.fold (s.sh j) := by unfold num; rw [if_neg (by omega), if_pos (by omega), Nat.add_sub_cancel_left]
    rw [this, Form.unfold_fold]
  · show ((Form.rv (s.form ++ rest) 0 0 22 : Nat) : Int) = _; rw [hr 22 (by decide)]; exact Form.u64_of (by omega) (by omega)
  · show ((Form.rv (s.form ++ rest) 0 0 23 : Nat) : Int) = _; rw [hr 23 (by decide)]; exact Form.u64_of (by omega) (by omega)
  · show ((Form.rv (s.form ++ rest) 0 0 24 : Nat) : Int) = _; rw [hr 24 (by decide)]; exact Form.u64_of (by omega) (by omega)
end Sp
end Go.Proofs.Ytoflehlkacofjaa
