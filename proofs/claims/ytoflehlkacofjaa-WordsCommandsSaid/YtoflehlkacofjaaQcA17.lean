/- Commands and replies that came in, by value. -/
import Derived.Test.YtoflehlkacofjaaQcA14
import Derived.OpenShut
import Derived.SizedLaws
namespace Go.Proofs.Ytoflehlkacofjaa
open Go.ChangeShapes Go.WideShapes Go.ChangeAt Go.RowKit Go.Deep
set_option linter.unusedVariables false
section
variable {H : Type} {enc : TypeId × Value → H} {w : World} {base : Nat} {spare : Nat → Bool} {held : Bool}
theorem cell_of_take {cs : List Value} {off : Nat} {v : Value} (h : (cs.drop off).take 1 = [v]) : cs[off]? = some v := by
  have := congrArg (fun l => l[0]?) h
  simpa using this
theorem int_of_trod {cs : List Value} {off m : Nat} {k : IntKind} {t : TypeId} {x : DataW H × List MemPlace} (hu : Try.prog.underlying t = some (.int k)) (hc : Try.prog.cellsOf t = 1)
    (h : DataW.trod enc Try.prog w base (fun _ => true) held m t ((cs.drop off).take (Try.prog.cellsOf t)) = some x) : ∃ n, cs[off]? = some (.int k n) ∧ (Lit.int k n).wf = true := by
  rw [hc] at h
  obtain ⟨n, h1, -, h3⟩ := DataW.trod_int hu h
  exact ⟨n, cell_of_take h1, h3⟩
theorem wf_i64 {n : Int} (h : (Lit.int .i64 n).wf = true) : Sp.i64 n := by
  unfold Sp.i64; simpa [Lit.wf, IntKind.min, IntKind.max, IntKind.signed, IntKind.bits] using h
theorem wf_u32 {n : Int} (h : (Lit.int .u32 n).wf = true) : 0 ≤ n ∧ n ≤ 4294967295 := by
  simpa [Lit.wf, IntKind.min, IntKind.max, IntKind.signed, IntKind.bits] using h
theorem wf_u8 {n : Int} (h : (Lit.int .u8 n).wf = true) : 0 ≤ n ∧ n ≤ 255 := by
  simpa [Lit.wf, IntKind.min, IntKind.max, IntKind.signed, IntKind.bits] using h
theorem wf_u64 {n : Int} (h : (Lit.int .u64 n).wf = true) : 0 ≤ n ∧ n ≤ 18446744073709551615 := by
  simpa [Lit.wf, IntKind.min, IntKind.max, IntKind.signed, IntKind.bits] using h
theorem bool_of_trod {cs : List Value} {off m : Nat} {t : TypeId} {x : DataW H × List MemPlace} (hu : Try.prog.underlying t = some .bool) (hc : Try.prog.cellsOf t = 1)
    (h : DataW.trod enc Try.prog w base (fun _ => true) held m t ((cs.drop off).take (Try.prog.cellsOf t)) = some x) : ∃ b, cs[off]? = some (.bool b) := by
  rw [hc] at h
  obtain ⟨b, h1, -⟩ := DataW.trod_bool hu h
  exact ⟨b, cell_of_take h1⟩
/-- The data of a contract, in a row of cells. -/
theorem sp_of_cells {l : List Value} {fuel : Nat} {x : DataW H × List MemPlace} (hl : l.length = 25) (hf : DataW.trod enc Try.prog w base (fun _ => true) held fuel 27 l = some x) : ∃ s : Sp, l = s.cells.toList ∧ s.ok := by
  obtain ⟨ys, m, _, -, hlen, hyl, hff⟩ := DataW.trod_struct Try.underlying27 hf
  have hy : ∀ j, j < 10 → ∃ y, ys[j]? = some y := fun j hj => ⟨ys[j]'(by rw [hyl]; exact hj), List.getElem?_eq_getElem _⟩
  have c1 : Try.prog.cellsOf 23 = 1 := by kernel_rfl
  have c2 : Try.prog.cellsOf 2 = 1 := by kernel_rfl
  have c5 : Try.prog.cellsOf 5 = 1 := by kernel_rfl
  have c64 : Try.prog.cellsOf 25 = 16 := by kernel_rfl
  have u63 : Try.prog.underlying 23 = some (.int .u32) := by kernel_rfl
  have u2 : Try.prog.underlying 2 = some (.int .i64) := by kernel_rfl
  have u5 : Try.prog.underlying 5 = some (.int .u8) := by kernel_rfl
  have u64 : Try.prog.underlying 25 = some (.array 16 2) := by kernel_rfl
  obtain ⟨y0, e0⟩ := hy 0 (by decide)
  obtain ⟨y1, e1⟩ := hy 1 (by decide)
  obtain ⟨y2, e2⟩ := hy 2 (by decide)
  obtain ⟨y3, e3⟩ := hy 3 (by decide)
  obtain ⟨y4, e4⟩ := hy 4 (by decide)
  obtain ⟨y5, e5⟩ := hy 5 (by decide)
  obtain ⟨y6, e6⟩ := hy 6 (by decide)
  obtain ⟨y7, e7⟩ := hy 7 (by decide)
  obtain ⟨y8, e8⟩ := hy 8 (by decide)
  obtain ⟨y9, e9⟩ := hy 9 (by decide)
  obtain ⟨n0, q0, w0⟩ := int_of_trod (off := 0) u63 c1 ((hff 0 _ rfl).trans e0)
  obtain ⟨n1, q1, w1⟩ := int_of_trod (off := 1) u5 c5 ((hff 1 _ rfl).trans e1)
  obtain ⟨n2, q2, w2⟩ := int_of_trod (off := 2) u2 c2 ((hff 2 _ rfl).trans e2)
  obtain ⟨n3, q3, w3⟩ := int_of_trod (off := 3) u2 c2 ((hff 3 _ rfl).trans e3)
  obtain ⟨n4, q4, w4⟩ := int_of_trod (off := 4) u2 c2 ((hff 4 _ rfl).trans e4)
  obtain ⟨n5, q5, w5⟩ := int_of_trod (off := 5) u2 c2 ((hff 5 _ rfl).trans e5)
  obtain ⟨n7, q7, w7⟩ := int_of_trod (off := 22) u2 c2 ((hff 7 _ rfl).trans e7)
  obtain ⟨n8, q8, w8⟩ := int_of_trod (off := 23) u63 c1 ((hff 8 _ rfl).trans e8)
  obtain ⟨n9, q9, w9⟩ := int_of_trod (off := 24) u2 c2 ((hff 9 _ rfl).trans e9)
  have h6 := (hff 6 _ rfl).trans e6
  obtain ⟨xs, m2, _, _, _, hxl, hx⟩ := DataW.trod_array u64 h6
  have hsh : ∀ i, i < 16 → ∃ n, l[6 + i]? = some (.int .i64 n) ∧ (Lit.int .i64 n).wf = true := by
    intro i hi
    have h1 := (hx i hi).trans (List.getElem?_eq_getElem (show i < xs.length by omega))
    rw [c2] at h1
    obtain ⟨n, h2, -, h3⟩ := DataW.trod_int u2 h1
    have h4 := cell_of_take h2
    refine ⟨n, ?_, h3⟩
    have h5 : ((l.drop 6).take (Try.prog.cellsOf 25))[i * 1]? = some (.int .i64 n) := h4
    rw [c64] at h5
    simpa [List.getElem?_take, List.getElem?_drop, hi] using h5
  refine ⟨⟨n0, n1, n2, n3, n4, n5, fun i => if h : i < 16 then (hsh i h).choose else 0, n7, n8, n9⟩, ?_, ?_⟩
  · show l = [_, _, _, _, _, _, _, _, _, _, _, _, _, _, _, _, _, _, _, _, _, _, _, _, _]
    apply List.ext_getElem?
    intro i
    by_cases hi : i < 25
    · have h : i = 0 ∨ i = 1 ∨ i = 2 ∨ i = 3 ∨ i = 4 ∨ i = 5 ∨ i = 6 ∨ i = 7 ∨ i = 8 ∨ i = 9 ∨ i = 10 ∨ i = 11 ∨ i = 12 ∨ i = 13 ∨ i = 14 ∨ i = 15 ∨ i = 16 ∨ i = 17 ∨ i = 18 ∨ i = 19 ∨ i = 20 ∨ i = 21 ∨ i = 22 ∨ i = 23 ∨ i = 24 := by omega
      rcases h with rfl | rfl | rfl | rfl | rfl | rfl | rfl | rfl | rfl | rfl | rfl | rfl | rfl | rfl | rfl | rfl | rfl | rfl | rfl | rfl | rfl | rfl | rfl | rfl | rfl
      · exact q0
      · exact q1
      · exact q2
      · exact q3
      · exact q4
      · exact q5
      · exact (hsh 0 (by decide)).choose_spec.1
      · exact (hsh 1 (by decide)).choose_spec.1
      · exact (hsh 2 (by decide)).choose_spec.1
      · exact (hsh 3 (by decide)).choose_spec.1
      · exact (hsh 4 (by decide)).choose_spec.1
      · exact (hsh 5 (by decide)).choose_spec.1
      · exact (hsh 6 (by decide)).choose_spec.1
      · exact (hsh 7 (by decide)).choose_spec.1
      · exact (hsh 8 (by decide)).choose_spec.1
      · exact (hsh 9 (by decide)).choose_spec.1
      · exact (hsh 10 (by decide)).choose_spec.1
      · exact (hsh 11 (by decide)).choose_spec.1
      · exact (hsh 12 (by decide)).choose_spec.1
      · exact (hsh 13 (by decide)).choose_spec.1
      · exact (hsh 14 (by decide)).choose_spec.1
      · exact (hsh 15 (by decide)).choose_spec.1
      · exact q7
      · exact q8
      · exact q9
    · rw [List.getElem?_eq_none (by omega), List.getElem?_eq_none (by simp; omega)]
  · refine ⟨wf_u32 w0, wf_u8 w1, wf_i64 w2, wf_i64 w3, wf_i64 w4, wf_i64 w5, fun i => ?_, wf_i64 w7, wf_u32 w8, wf_i64 w9⟩
    show Sp.i64 (if h : i < 16 then (hsh i h).choose else 0)
    split
    · rename_i h; exact wf_i64 (hsh i h).choose_spec.2
    · unfold Sp.i64; decide
set_option maxRecDepth 100000 in
theorem cm_of_trod {v : Value} {d : DataW H} {p : List MemPlace} {base' : Nat} (hk : Value.okWide Try.prog w .any base' 30 v) (h : DataW.Trod enc Try.prog w base (fun _ => true) held 30 v d p) : ∃ x : Cm, v = .agg x.cells ∧ x.ok := by
  obtain ⟨cs, rfl, hsz⟩ := okWide_struct Try.underlying30 hk
  rw [show Try.prog.cellsOf 30 = 35 by kernel_rfl] at hsz
  obtain ⟨fuel, hf⟩ := h
  obtain ⟨ys, m, _, -, hlen, hyl, hff⟩ := DataW.trod_struct Try.underlying30 hf
  obtain ⟨l⟩ := cs
  have hl : l.length = 35 := hsz
  have hcs : (Value.agg ⟨l⟩).cells.toList = l := rfl
  rw [hcs] at hff
  have hy : ∀ j, j < 11 → ∃ y, ys[j]? = some y := fun j hj => ⟨ys[j]'(by rw [hyl]; exact hj), List.getElem?_eq_getElem _⟩
  obtain ⟨y0, e0⟩ := hy 0 (by decide)
  obtain ⟨y1, e1⟩ := hy 1 (by decide)
  obtain ⟨y2, e2⟩ := hy 2 (by decide)
  obtain ⟨y3, e3⟩ := hy 3 (by decide)
  obtain ⟨y4, e4⟩ := hy 4 (by decide)
  obtain ⟨y5, e5⟩ := hy 5 (by decide)
  obtain ⟨y6, e6⟩ := hy 6 (by decide)
  obtain ⟨y7, e7⟩ := hy 7 (by decide)
  obtain ⟨y8, e8⟩ := hy 8 (by decide)
  obtain ⟨y9, e9⟩ := hy 9 (by decide)
  obtain ⟨y10, e10⟩ := hy 10 (by decide)
  obtain ⟨n0, q0, w0⟩ := int_of_trod (off := 0) Try.underlying22 (by kernel_rfl) ((hff 0 _ rfl).trans e0)
  obtain ⟨n1, q1, w1⟩ := int_of_trod (off := 1) Try.underlying23 (by kernel_rfl) ((hff 1 _ rfl).trans e1)
  obtain ⟨n2, q2, w2⟩ := int_of_trod (off := 2) Try.underlying23 (by kernel_rfl) ((hff 2 _ rfl).trans e2)
  obtain ⟨n3, q3, w3⟩ := int_of_trod (off := 3) Try.underlying24 (by kernel_rfl) ((hff 3 _ rfl).trans e3)
  obtain ⟨n4, q4, w4⟩ := int_of_trod (off := 4) Try.underlying2 (by kernel_rfl) ((hff 4 _ rfl).trans e4)
  obtain ⟨b6, q6⟩ := bool_of_trod (off := 30) Try.underlying4 (by kernel_rfl) ((hff 6 _ rfl).trans e6)
  obtain ⟨b7, q7⟩ := bool_of_trod (off := 31) Try.underlying4 (by kernel_rfl) ((hff 7 _ rfl).trans e7)
  obtain ⟨n8, q8, w8⟩ := int_of_trod (off := 32) Try.underlying28 (by kernel_rfl) ((hff 8 _ rfl).trans e8)
  obtain ⟨n9, q9, w9⟩ := int_of_trod (off := 33) Try.underlying2 (by kernel_rfl) ((hff 9 _ rfl).trans e9)
  obtain ⟨n10, q10, w10⟩ := int_of_trod (off := 34) Try.underlying2 (by kernel_rfl) ((hff 10 _ rfl).trans e10)
  obtain ⟨m0, rfl⟩ : ∃ m : Nat, n0 = (m : Int) := ⟨n0.toNat, by have := (wf_u8 w0).1; omega⟩
  obtain ⟨m1, rfl⟩ : ∃ m : Nat, n1 = (m : Int) := ⟨n1.toNat, by have := (wf_u32 w1).1; omega⟩
  obtain ⟨m2, rfl⟩ : ∃ m : Nat, n2 = (m : Int) := ⟨n2.toNat, by have := (wf_u32 w2).1; omega⟩
  obtain ⟨m3, rfl⟩ : ∃ m : Nat, n3 = (m : Int) := ⟨n3.toNat, by have := (wf_u64 w3).1; omega⟩
  obtain ⟨m8, rfl⟩ : ∃ m : Nat, n8 = (m : Int) := ⟨n8.toNat, by have := (wf_u8 w8).1; omega⟩
  have h5 := (hff 5 _ rfl).trans e5
  have c27 : Try.prog.cellsOf 27 = 25 := by kernel_rfl
  obtain ⟨sp, hsp, hsok⟩ := sp_of_cells (l := (l.drop 5).take 25) (by rw [List.length_take, List.length_drop]; omega) (by rw [← c27]; exact h5)
  have hq5 : ∀ i, i < 25 → l[5 + i]? = sp.cells.toList[i]? := fun i hi => by rw [← hsp, List.getElem?_take, if_pos hi, List.getElem?_drop]
  refine ⟨⟨m0, m1, m2, m3, n4, sp, b6, b7, m8, n9, n10⟩, ?_, ⟨?_, ?_, ?_, ?_, wf_i64 w4, hsok, ?_, wf_i64 w9, wf_i64 w10⟩⟩
  · congr 1
    apply Array.ext'
    apply List.ext_getElem?
    intro i
    show l[i]? = _
    by_cases hi : i < 35
    · have h : i = 0 ∨ i = 1 ∨ i = 2 ∨ i = 3 ∨ i = 4 ∨ i = 5 ∨ i = 6 ∨ i = 7 ∨ i = 8 ∨ i = 9 ∨ i = 10 ∨ i = 11 ∨ i = 12 ∨ i = 13 ∨ i = 14 ∨ i = 15 ∨ i = 16 ∨ i = 17 ∨ i = 18 ∨ i = 19 ∨ i = 20 ∨ i = 21 ∨ i = 22 ∨ i = 23 ∨ i = 24 ∨ i = 25 ∨ i = 26 ∨ i = 27 ∨ i = 28 ∨ i = 29 ∨ i = 30 ∨ i = 31 ∨ i = 32 ∨ i = 33 ∨ i = 34 := by omega
      rcases h with rfl | rfl | rfl | rfl | rfl | rfl | rfl | rfl | rfl | rfl | rfl | rfl | rfl | rfl | rfl | rfl | rfl | rfl | rfl | rfl | rfl | rfl | rfl | rfl | rfl | rfl | rfl | rfl | rfl | rfl | rfl | rfl | rfl | rfl | rfl
      · exact q0
      · exact q1
      · exact q2
      · exact q3
      · exact q4
      · exact (hq5 0 (by decide))
      · exact (hq5 1 (by decide))
      · exact (hq5 2 (by decide))
      · exact (hq5 3 (by decide))
      · exact (hq5 4 (by decide))
      · exact (hq5 5 (by decide))
      · exact (hq5 6 (by decide))
      · exact (hq5 7 (by decide))
      · exact (hq5 8 (by decide))
      · exact (hq5 9 (by decide))
      · exact (hq5 10 (by decide))
      · exact (hq5 11 (by decide))
      · exact (hq5 12 (by decide))
      · exact (hq5 13 (by decide))
      · exact (hq5 14 (by decide))
      · exact (hq5 15 (by decide))
      · exact (hq5 16 (by decide))
      · exact (hq5 17 (by decide))
      · exact (hq5 18 (by decide))
      · exact (hq5 19 (by decide))
      · exact (hq5 20 (by decide))
      · exact (hq5 21 (by decide))
      · exact (hq5 22 (by decide))
      · exact (hq5 23 (by decide))
      · exact (hq5 24 (by decide))
      · exact q6
      · exact q7
      · exact q8
      · exact q9
      · exact q10
    · rw [List.getElem?_eq_none (by omega), List.getElem?_eq_none (by show 35 ≤ i; omega)]
  · have := (wf_u8 w0).2; show m0 < 256; omega
  · have := (wf_u32 w1).2; show m1 < 2 ^ 32; omega
  · have := (wf_u32 w2).2; show m2 < 2 ^ 32; omega
  · have := (wf_u64 w3).2; show m3 < 2 ^ 64; omega
  · have := (wf_u8 w8).2; show m8 < 256; omega
end
end Go.Proofs.Ytoflehlkacofjaa
