/- Commands and replies that came in, by value. -/
import Derived.Test.YtoflehlkacofjaaQdA14
import Derived.OpenShut
import Derived.SizedLaws
namespace Go.Proofs.Ytoflehlkacofjaa
open Go.ChangeShapes Go.WideShapes Go.ChangeAt Go.RowKit Go.Deep
set_option linter.unusedVariables false
section
variable {H : Type} {enc : TypeId × Value → H} {w : World} {base : Nat} {spare : Nat → Bool} {held : Bool}
theorem cell_of_take {cs : List Value} {off : Nat} {v : Value} (h : (cs.drop off).take 1 = [v]) : cs[off]? = some v := by
  have := congrArg (fun l => l[0]?) h
  simpa using this
theorem int_of_trod {cs : List Value} {off m : Nat} {k : IntKind} {t : TypeId} {x : DataW H × List MemPlace} (hu : Try.prog.underlying t = some (.int k)) (hc : Try.prog.cellsOf t = 1)
    (h : DataW.trod enc Try.prog w base (fun _ => true) held m t ((cs.drop off).take (Try.prog.cellsOf t)) = some x) : ∃ n, cs[off]? = some (.int k n) ∧ (Lit.int k n).wf = true := by
  rw [hc] at h
  obtain ⟨n, h1, -, h3⟩ := DataW.trod_int hu h
  exact ⟨n, cell_of_take h1, h3⟩
theorem wf_i64 {n : Int} (h : (Lit.int .i64 n).wf = true) : Sp.i64 n := by
  unfold Sp.i64; simpa [Lit.wf, IntKind.min, IntKind.max, IntKind.signed, IntKind.bits] using h
theorem wf_u32 {n : Int} (h : (Lit.int .u32 n).wf = true) : 0 ≤ n ∧ n ≤ 4294967295 := by
  simpa [Lit.wf, IntKind.min, IntKind.max, IntKind.signed, IntKind.bits] using h
theorem wf_u64 {n : Int} (h : (Lit.int .u64 n).wf = true) : 0 ≤ n ∧ n ≤ 18446744073709551615 := by
  simpa [Lit.wf, IntKind.min, IntKind.max, IntKind.signed, IntKind.bits] using h
theorem slice_of_trod {cs : List Value} {off m : Nat} {t e : TypeId} {x : DataW H × List MemPlace} (hu : Try.prog.underlying t = some (.slice e)) (hc : Try.prog.cellsOf t = 1)
    (h : DataW.trod enc Try.prog w base (fun _ => true) held m t ((cs.drop off).take (Try.prog.cellsOf t)) = some x) : ∃ a l c, cs[off]? = some (.slice a l c) ∧ DataW.Trod enc Try.prog w base (fun _ => true) held t (.slice a l c) x.1 x.2 := by
  rw [hc] at h
  obtain ⟨a, l, c, e⟩ := Go.Joins.slice_form hu h
  rw [e] at h
  exact ⟨a, l, c, cell_of_take e, m, h⟩
/-- A row that came in is within the reach. -/
theorem slice_fit {t e : TypeId} {d : DataW H} {p : List MemPlace} {a : Option Addr} {len cap : Nat} (ht : Try.prog.underlying t = some (.slice e)) (hb : 1 ≤ Try.prog.bytesOf e) (hs : Fits Try.prog t d)
    (h : DataW.Trod enc Try.prog w base (fun _ => true) held t (.slice a len cap) d p) : len ≤ 140737488351232 := by
  obtain ⟨fuel, hf⟩ := h
  rcases Go.Deep.open_slice ht hf with ⟨hcs, _⟩ | ⟨x, len', cap', m, n, D, Pl, hcs, _, hl, hm, hmm, hx, _⟩
  · simp [Value.cells] at hcs
    obtain ⟨rfl, rfl, rfl⟩ := hcs
    exact Nat.zero_le _
  · simp [Value.cells] at hcs
    obtain ⟨rfl, rfl, rfl⟩ := hcs
    simp only [Prod.mk.injEq] at hx
    obtain ⟨rfl, _⟩ := hx
    have := hs _ (show (((List.range len).map D).length + ((List.range (m - len)).map fun j => D (len + j)).length) * Try.prog.bytesOf e ∈ _ from by rw [DataW.weights, ht]; exact List.mem_cons_self ..)
    rw [List.length_map, List.length_range] at this
    unfold reachBytes at this
    have h2 : len + ((List.range (m - len)).map fun j => D (len + j)).length ≤ (len + ((List.range (m - len)).map fun j => D (len + j)).length) * Try.prog.bytesOf e := Nat.le_mul_of_pos_right _ hb
    omega
theorem RdN_of_trod {t e : TypeId} {k : IntKind} {d : DataW H} {p : List MemPlace} {a : Option Addr} {len cap : Nat} (ht : Try.prog.underlying t = some (.slice e)) (he : Try.prog.underlying e = some (.int k)) (hc : Try.prog.cellsOf e = 1) (hk : ∀ n, (Lit.int k n).wf = true → 0 ≤ n)
    (h : DataW.Trod enc Try.prog w base (fun _ => true) true t (.slice a len cap) d p) : ∃ ns : List Nat, ns.length = len ∧ RdN w (.slice a len cap) k ns ∧ ∀ n ∈ ns, (Lit.int k (n : Int)).wf = true := by
  obtain ⟨fuel, hf⟩ := h
  rcases open_ints ht he hc hf with ⟨hcs, _⟩ | ⟨x, l, c, zs, hcs, _, hl, hm, hz, _, hcell, hwz⟩
  · simp [Value.cells] at hcs
    obtain ⟨rfl, rfl, rfl⟩ := hcs
    exact ⟨[], rfl, RdC.nil _ _, fun n h => by cases h⟩
  · simp [Value.cells] at hcs
    obtain ⟨rfl, rfl, rfl⟩ := hcs
    have hzl : zs.length = cap := by simpa using hz
    refine ⟨(zs.take len).map Int.toNat, by simp; omega, ⟨some x, cap, by simp; omega, by simp; omega, hm, by simp, fun hne => ?_⟩, fun n hn => ?_⟩
    · have hpos : 0 < len := by simp at hne; omega
      obtain ⟨b, off, rfl, _⟩ := plain_of_cell (hcell 0 (by omega))
      refine ⟨b, off, rfl, fun i u hu => ?_⟩
      rw [List.map_map, List.getElem?_map] at hu
      have hi : i < len := by
        rcases Nat.lt_or_ge i len with h | h
        · exact h
        · rw [List.getElem?_eq_none (by simp; omega)] at hu; cases hu
      rw [List.getElem?_take, if_pos hi, List.getElem?_eq_getElem (by omega)] at hu
      have h0 := hk _ (hwz (zs[i]'(by omega)) (List.getElem_mem _))
      have hc2 := hcell i (by omega)
      rw [plain_add, getD_of_lt _ _ _ (by omega)] at hc2
      rw [hc2]
      simp only [Option.map_some, Function.comp_apply, Option.some.injEq] at hu
      rw [← hu, Int.toNat_of_nonneg h0]
    · obtain ⟨z, hz1, rfl⟩ := List.mem_map.1 hn
      have hmem := List.mem_of_mem_take hz1
      rw [Int.toNat_of_nonneg (hk _ (hwz _ hmem))]
      exact hwz _ hmem
theorem tr_len : ∀ ts : List Tr, (ts.flatMap Tr.cells).length = ts.length * 4
  | [] => rfl
  | t :: ts => by rw [List.flatMap_cons, List.length_append, tr_len ts, show t.cells.length = 4 from rfl, List.length_cons]; omega
theorem RdT_of_trod {d : DataW H} {p : List MemPlace} {a : Option Addr} {len cap : Nat} (hs : Fits Try.prog 32 d)
    (h : DataW.Trod enc Try.prog w base (fun _ => true) true 32 (.slice a len cap) d p) : ∃ ts : List Tr, ts.length = len ∧ RdT w (.slice a len cap) ts ∧ ∀ t ∈ ts, t.ok := by
  obtain ⟨h1, h2, h3, h4⟩ := open_structs_fit (C := 4) Try.underlying32 Try.underlying62 (by kernel_rfl) ⟨_, Array.mem_of_getElem? (i := 0) rfl, rfl, by kernel_rfl⟩ (by decide) hs h
  rcases Nat.eq_zero_or_pos len with hz | hpos
  · subst hz
    exact ⟨[], rfl, ⟨a, cap, rfl, h1, h2, rfl, fun h => absurd rfl h⟩, fun t h => by cases h⟩
  · obtain ⟨b, off, rfl, hb, hc⟩ := h4 hpos
    haveI : Inhabited Tr := ⟨⟨0, 0, 0, 0⟩⟩
    obtain ⟨ls, hl, hp⟩ := list_of_fn len (fun i (x : Tr) => (∀ j u, x.cells[j]? = some u → w.cell? ⟨b, off + i * 4 + j, none⟩ = some u) ∧ x.ok) (fun i hi => by
      obtain ⟨u0, y0, n0, c0, t0, _⟩ := hc i hi _ (Array.mem_of_getElem? (i := 0) rfl) (by kernel_rfl) (by decide)
      obtain ⟨u1, y1, n1, c1, t1, _⟩ := hc i hi _ (Array.mem_of_getElem? (i := 1) rfl) (by kernel_rfl) (by decide)
      obtain ⟨u2, y2, n2, c2, t2, _⟩ := hc i hi _ (Array.mem_of_getElem? (i := 2) rfl) (by kernel_rfl) (by decide)
      obtain ⟨u3, y3, n3, c3, t3, _⟩ := hc i hi _ (Array.mem_of_getElem? (i := 3) rfl) (by kernel_rfl) (by decide)
      obtain ⟨z0, e0, _, w0⟩ := DataW.trod_int Try.underlying2 t0
      obtain ⟨z1, e1, _, w1⟩ := DataW.trod_int Try.underlying2 t1
      obtain ⟨z2, e2, _, w2⟩ := DataW.trod_int Try.underlying24 t2
      obtain ⟨z3, e3, _, w3⟩ := DataW.trod_int Try.underlying23 t3
      simp only [List.cons.injEq, and_true] at e0 e1 e2 e3
      subst e0; subst e1; subst e2; subst e3
      obtain ⟨m2, rfl⟩ : ∃ m : Nat, z2 = (m : Int) := ⟨z2.toNat, by have := (wf_u64 w2).1; omega⟩
      obtain ⟨m3, rfl⟩ : ∃ m : Nat, z3 = (m : Int) := ⟨z3.toNat, by have := (wf_u32 w3).1; omega⟩
      refine ⟨⟨z0, z1, m2, m3⟩, fun j u hu => ?_, ⟨wf_i64 w0, wf_i64 w1, ?_, ?_⟩⟩
      · have hj : j < 4 := (List.getElem?_eq_some_iff.1 hu).1
        have hw : j = 0 ∨ j = 1 ∨ j = 2 ∨ j = 3 := by omega
        rcases hw with rfl | rfl | rfl | rfl
        · cases hu; exact c0
        · cases hu; exact c1
        · cases hu; exact c2
        · cases hu; exact c3
      · have := (wf_u64 w2).2; show m2 < 2 ^ 64; omega
      · have := (wf_u32 w3).2; show m3 < 2 ^ 32; omega)
    subst hl
    refine ⟨ls, rfl, ⟨some ⟨b, off, none⟩, cap, rfl, h1, h2, ?_, fun _ => ⟨b, off, rfl, fun i u hu => ?_⟩⟩, fun t ht => ?_⟩
    · exact tr_len ls
    · have hi : i < (ls.flatMap Tr.cells).length := (List.getElem?_eq_some_iff.1 hu).1
      have hle := tr_len ls
      have hq : i / 4 < ls.length := by omega
      have h := tr_cell ls (i / 4) (i % 4) hq (by omega)
      rw [show i / 4 * 4 + i % 4 = i by omega, hu] at h
      have hpc := (hp (i / 4) hq).1
      rw [getD_of_lt _ _ _ hq] at hpc
      have := hpc (i % 4) u h.symm
      rwa [show off + i / 4 * 4 + i % 4 = off + i by omega] at this
    · obtain ⟨i, hi, rfl⟩ := List.getElem_of_mem ht
      have := (hp i hi).2
      rwa [getD_of_lt _ _ _ hi] at this
set_option maxRecDepth 100000 in
theorem rp_of_trod {v : Value} {d : DataW H} {p : List MemPlace} {base' : Nat} (hs : Fits Try.prog 36 d)
    (hk : Value.okWide Try.prog w .any base' 36 v) (h : DataW.Trod enc Try.prog w base (fun _ => true) true 36 v d p) :
    ∃ x : Rp × Value × Value × Value, v = .agg (rpc x.1 x.2.1 x.2.2.1 x.2.2.2) ∧ RpA w x.2.1 x.2.2.1 x.2.2.2 x.1 := by
  obtain ⟨cs, rfl, hsz⟩ := okWide_struct Try.underlying36 hk
  rw [show Try.prog.cellsOf 36 = 7 by kernel_rfl] at hsz
  obtain ⟨fuel, hf⟩ := h
  obtain ⟨ys, m, _, hyx, hlen, hyl, hff⟩ := DataW.trod_struct Try.underlying36 hf
  simp only [Prod.mk.injEq] at hyx
  obtain ⟨l⟩ := cs
  have hl : l.length = 7 := hsz
  have hcs : (Value.agg ⟨l⟩).cells.toList = l := rfl
  rw [hcs] at hff
  have hy : ∀ j, j < 7 → ∃ y, ys[j]? = some y := fun j hj => ⟨ys[j]'(by rw [hyl]; exact hj), List.getElem?_eq_getElem _⟩
  have hfit : ∀ (j : Nat) (y : DataW H × List MemPlace) (t : TypeId), ys[j]? = some y → ([31, 24, 2, 2, 32, 33, 34] : List TypeId)[j]? = some t → Fits Try.prog t y.1 := by
    intro j y t hj ht z hz'
    refine hs z ?_
    rw [hyx.1, DataW.weights, Try.underlying36]
    refine DataW.weights_mem_each (j := j) (t := t) (d := y.1) ?_ ?_ z hz'
    · exact ht
    · rw [List.getElem?_map, hj]; rfl
  obtain ⟨y0, e0⟩ := hy 0 (by decide)
  obtain ⟨y1, e1⟩ := hy 1 (by decide)
  obtain ⟨y2, e2⟩ := hy 2 (by decide)
  obtain ⟨y3, e3⟩ := hy 3 (by decide)
  obtain ⟨y4, e4⟩ := hy 4 (by decide)
  obtain ⟨y5, e5⟩ := hy 5 (by decide)
  obtain ⟨y6, e6⟩ := hy 6 (by decide)
  obtain ⟨n0, q0, w0⟩ := int_of_trod (off := 0) Try.underlying31 (by kernel_rfl) ((hff 0 _ rfl).trans e0)
  obtain ⟨n1, q1, w1⟩ := int_of_trod (off := 1) Try.underlying24 (by kernel_rfl) ((hff 1 _ rfl).trans e1)
  obtain ⟨n2, q2, w2⟩ := int_of_trod (off := 2) Try.underlying2 (by kernel_rfl) ((hff 2 _ rfl).trans e2)
  obtain ⟨n3, q3, w3⟩ := int_of_trod (off := 3) Try.underlying2 (by kernel_rfl) ((hff 3 _ rfl).trans e3)
  obtain ⟨a4, l4, k4, q4, t4⟩ := slice_of_trod (off := 4) Try.underlying32 (by kernel_rfl) ((hff 4 _ rfl).trans e4)
  obtain ⟨a5, l5, k5, q5, t5⟩ := slice_of_trod (off := 5) Try.underlying33 (by kernel_rfl) ((hff 5 _ rfl).trans e5)
  obtain ⟨a6, l6, k6, q6, t6⟩ := slice_of_trod (off := 6) Try.underlying34 (by kernel_rfl) ((hff 6 _ rfl).trans e6)
  obtain ⟨ts, hts, hrt, hto⟩ := RdT_of_trod (hfit 4 _ 32 e4 rfl) t4
  obtain ⟨gs, hgs, hrg, hgo⟩ := RdN_of_trod Try.underlying33 Try.underlying24 (by kernel_rfl) (fun n h => (wf_u64 h).1) t5
  obtain ⟨acs, has, hra, hao⟩ := RdN_of_trod Try.underlying34 Try.underlying23 (by kernel_rfl) (fun n h => (wf_u32 h).1) t6
  have b4 := slice_fit Try.underlying32 (Nat.le_of_ble_eq_true (by kernel_rfl)) (hfit 4 _ 32 e4 rfl) t4
  have b5 := slice_fit Try.underlying33 (Nat.le_of_ble_eq_true (by kernel_rfl)) (hfit 5 _ 33 e5 rfl) t5
  have b6 := slice_fit Try.underlying34 (Nat.le_of_ble_eq_true (by kernel_rfl)) (hfit 6 _ 34 e6 rfl) t6
  obtain ⟨m1, rfl⟩ : ∃ m : Nat, n1 = (m : Int) := ⟨n1.toNat, by have := (wf_u64 w1).1; omega⟩
  refine ⟨(⟨n0, m1, n2, n3, ts, gs, acs⟩, .slice a4 l4 k4, .slice a5 l5 k5, .slice a6 l6 k6), ?_, ⟨hrt, hrg, hra, ⟨wf_i64 w0, ?_, wf_i64 w2, wf_i64 w3, hto, ?_, ?_, ?_, ?_, ?_⟩⟩⟩
  · unfold rpc
    congr 1
    apply Array.ext'
    show l = [_, _, _, _, _, _, _]
    apply List.ext_getElem?
    intro i
    by_cases hi : i < 7
    · have h : i = 0 ∨ i = 1 ∨ i = 2 ∨ i = 3 ∨ i = 4 ∨ i = 5 ∨ i = 6 := by omega
      rcases h with rfl | rfl | rfl | rfl | rfl | rfl | rfl
      · exact q0
      · exact q1
      · exact q2
      · exact q3
      · exact q4
      · exact q5
      · exact q6
    · rw [List.getElem?_eq_none (by omega), List.getElem?_eq_none (by simp; omega)]
  · have := (wf_u64 w1).2; show m1 < 2 ^ 64; omega
  · intro n hn; have := (wf_u64 (hgo n hn)).2; omega
  · intro n hn; have := (wf_u32 (hao n hn)).2; omega
  · show ts.length ≤ _; rw [hts]; exact b4
  · show gs.length ≤ _; rw [hgs]; exact b5
  · show acs.length ≤ _; rw [has]; exact b6
end
end Go.Proofs.Ytoflehlkacofjaa
