/- A command: its cells, the fields of its kind, when it may be; two commands are alike just if their cells are. -/
import Derived.Test.YtoflehlkacofjaaQfA1
import Derived.DeepKeys
namespace Go.Proofs.Ytoflehlkacofjaa
open Go.ChangeShapes Go.WideShapes Go.ChangeAt Go.RowKit
set_option linter.unusedVariables false
/-- A command. -/
structure Cm where
  kind : Nat
  account : Nat
  contract : Nat
  number : Nat
  amount : Int
  spec : Sp
  on : Bool
  buy : Bool
  as_ : Nat
  price : Int
  qty : Int
def hasA (k : Nat) : Bool := [1, 2, 5, 6, 7, 8, 9, 10, 13].contains k
def hasC (k : Nat) : Bool := [4, 5, 8, 9, 11, 14].contains k
def hasN (k : Nat) : Bool := [6, 7].contains k
def hasM (k : Nat) : Bool := [1, 2].contains k
def hasS (k : Nat) : Bool := [3].contains k
def hasO (k : Nat) : Bool := [4, 10].contains k
def hasB (k : Nat) : Bool := [5, 9].contains k
def hasK (k : Nat) : Bool := [5].contains k
def hasP (k : Nat) : Bool := [5, 7, 9, 11].contains k
def hasQ (k : Nat) : Bool := [5, 7, 9].contains k
namespace Cm
def cells (x : Cm) : Array Value := cmc x.kind x.account x.contract x.number x.amount x.spec x.on x.buy x.as_ x.price x.qty
structure ok (x : Cm) : Prop where
  kind : x.kind < 256
  account : x.account < 2 ^ 32
  contract : x.contract < 2 ^ 32
  number : x.number < 2 ^ 64
  amount : Sp.i64 x.amount
  spec : x.spec.ok
  as_ : x.as_ < 256
  price : Sp.i64 x.price
  qty : Sp.i64 x.qty
/-- The fields of its kind alone. -/
def bare (x : Cm) : Cm := ⟨x.kind, if hasA x.kind then x.account else 0, if hasC x.kind then x.contract else 0, if hasN x.kind then x.number else 0, if hasM x.kind then x.amount else 0, if hasS x.kind then x.spec else Sp.zero,
  if hasO x.kind then x.on else false, if hasB x.kind then x.buy else false, if hasK x.kind then x.as_ else 0, if hasP x.kind then x.price else 0, if hasQ x.kind then x.qty else 0⟩
end Cm
/-! ### Two structs of numbers, compared -/
section
variable {P : Program} {w : World} {xs ys : Array Value}
theorem eqF_cons {d : Nat} {f : Field} {fs : List Field} {a b : Value} {r r' : Bool} (hn : f.name ≠ "_") (h1 : (part f.type xs f.offset).run P w = .ok a w) (h2 : (part f.type ys f.offset).run P w = .ok b w)
    (h3 : (Op.equalIn d f.type a b).run P w = .ok r w) (h4 : (Op.eqFields d xs ys fs).run P w = .ok r' w) : (Op.eqFields d xs ys (f :: fs)).run P w = .ok (r && r') w := by
  unfold Op.eqFields
  rw [if_pos hn]
  simp only [Sem.run_bind, h1, h2, h3, Result.andThen_ok]
  cases r with
  | false => simp
  | true => simpa using h4
theorem eqF_int {d : Nat} {f : Field} {fs : List Field} {k : IntKind} {m n : Int} {r' : Bool} (hn : f.name ≠ "_") (hu : P.underlying f.type = some (.int k)) (h1 : xs[f.offset]? = some (.int k m)) (h2 : ys[f.offset]? = some (.int k n))
    (h4 : (Op.eqFields (d + 1) xs ys fs).run P w = .ok r' w) : (Op.eqFields (d + 1) xs ys (f :: fs)).run P w = .ok ((m == n) && r') w :=
  eqF_cons hn (run_part_plain w (by simp [Program.plainKey, hu]) h1) (run_part_plain w (by simp [Program.plainKey, hu]) h2) (run_equalIn_int w d f.type k k m n hu) h4
theorem eqF_bool {d : Nat} {f : Field} {fs : List Field} {m n : Bool} {r' : Bool} (hn : f.name ≠ "_") (hu : P.underlying f.type = some .bool) (h1 : xs[f.offset]? = some (.bool m)) (h2 : ys[f.offset]? = some (.bool n))
    (h4 : (Op.eqFields (d + 1) xs ys fs).run P w = .ok r' w) : (Op.eqFields (d + 1) xs ys (f :: fs)).run P w = .ok ((m == n) && r') w :=
  eqF_cons hn (run_part_plain w (by simp [Program.plainKey, hu]) h1) (run_part_plain w (by simp [Program.plainKey, hu]) h2) (run_equalIn_bool' w d f.type m n hu) h4
theorem items_dec {e : TypeId} {k : IntKind} (d c : Nat) (hu : P.underlying e = some (.int k)) (p q : Nat → Int) : ∀ is : List Nat, (∀ i ∈ is, xs[i * c]? = some (.int k (p i)) ∧ ys[i * c]? = some (.int k (q i))) →
    (Op.eqItems (d + 1) e c xs ys is).run P w = .ok (is.all fun i => p i == q i) w
  | [], _ => by simp [Op.eqItems]
  | i :: is, h => by
    have h1 := run_part_plain (P := P) w (e := e) (by simp [Program.plainKey, hu]) (h i (by simp)).1
    have h2 := run_part_plain (P := P) w (e := e) (by simp [Program.plainKey, hu]) (h i (by simp)).2
    have ih := items_dec d c hu p q is (fun j hj => h j (by simp [hj]))
    simp only [Op.eqItems, Sem.run_bind, h1, h2, run_equalIn_int w d e k k _ _ hu, Result.andThen_ok, List.all_cons]
    cases hb : (p i == q i) with
    | false => simp
    | true => simpa using ih
end
/-- Alike, field by field. -/
def Sp.sameB (s t : Sp) : Bool := (s.number == t.number) && ((s.route == t.route) && ((s.tick == t.tick) && ((s.lot == t.lot) && ((s.band == t.band) && ((s.limit == t.limit) && (((List.range 16).all fun i => s.sh i == t.sh i) && ((s.credit == t.credit) && ((s.last == t.last) && ((s.first == t.first) && true)))))))))
theorem part_row {P : Program} {w : World} {xs ys : Array Value} {t : TypeId} {off n : Nat} (h : (match P.underlying t with | some (.struct _) => true | some (.array _ _) => true | _ => false) = true) (hn : P.cellsOf t = n) (hi : (P.info? t).isSome = true)
    (he : (xs.toList.drop off).take n = ys.toList) : (part t xs off).run P w = .ok (.agg ys) w := by
  subst hn
  obtain ⟨i, hi⟩ := Option.isSome_iff_exists.1 hi
  have hy : xs.extract off (off + P.cellsOf t) = ys := arr_of_list (by rw [Array.toList_extract, ← he]; simp [List.extract])
  rw [← hy]
  split at h
  · rename_i fs hu; simp [part, isAgg, run_underlying hu, run_sizeOf w hi]
  · rename_i m e hu; simp [part, isAgg, run_underlying hu, run_sizeOf w hi]
  · cases h
theorem part25 (s : Sp) (W : World) : (part 25 s.cells 6).run Try.prog W = .ok (.agg s.row) W := part_row (n := 16) (by rw [Try.underlying25]) (by kernel_rfl) (by kernel_rfl) rfl
theorem equal25 (s t : Sp) (d : Nat) (W : World) : (Op.equalIn (d + 2) 25 (.agg s.row) (.agg t.row)).run Try.prog W = .ok ((List.range 16).all fun i => s.sh i == t.sh i) W := by
  obtain ⟨i, hi⟩ : ∃ i, Try.prog.info? 2 = some i := Option.isSome_iff_exists.1 (by kernel_rfl)
  rw [run_equalIn_array W (d + 1) _ _ Try.underlying25 hi]
  refine items_dec d _ Try.underlying2 s.sh t.sh _ fun j hj => ?_
  have hj' := List.mem_range.1 hj
  rw [show Try.prog.cellsOf 2 = 1 by kernel_rfl, Nat.mul_one]
  exact ⟨s.row_at j hj', t.row_at j hj'⟩
set_option maxRecDepth 100000 in
theorem equal27 (s t : Sp) (W : World) : (Op.equalIn (9997 + 2) 27 (.agg s.cells) (.agg t.cells)).run Try.prog W = .ok (s.sameB t) W := by
  rw [run_equalIn_struct W 9998 27 _ _ (by kernel_rfl) (by kernel_rfl)]
  refine eqF_int (d := 9997) (by decide) Try.underlying23 rfl rfl ?_
  refine eqF_int (d := 9997) (by decide) Try.underlying5 rfl rfl ?_
  refine eqF_int (d := 9997) (by decide) Try.underlying2 rfl rfl ?_
  refine eqF_int (d := 9997) (by decide) Try.underlying2 rfl rfl ?_
  refine eqF_int (d := 9997) (by decide) Try.underlying2 rfl rfl ?_
  refine eqF_int (d := 9997) (by decide) Try.underlying2 rfl rfl ?_
  refine eqF_cons (by decide) (part25 s W) (part25 t W) (equal25 s t 9996 W) ?_
  refine eqF_int (d := 9997) (by decide) Try.underlying2 rfl rfl ?_
  refine eqF_int (d := 9997) (by decide) Try.underlying23 rfl rfl ?_
  refine eqF_int (d := 9997) (by decide) Try.underlying2 rfl rfl ?_
  rfl
namespace Cm
/-- Alike. -/
def same (x y : Cm) : Bool := ((x.kind : Int) == (y.kind : Int)) && (((x.account : Int) == (y.account : Int)) && (((x.contract : Int) == (y.contract : Int)) && (((x.number : Int) == (y.number : Int)) && ((x.amount == y.amount) && (x.spec.sameB y.spec && ((x.on == y.on) && ((x.buy == y.buy) && (((x.as_ : Int) == (y.as_ : Int)) && ((x.price == y.price) && ((x.qty == y.qty) && true))))))))))
theorem same_iff (x y : Cm) : x.same y = true ↔ x.cells = y.cells := by
  unfold same cells cmc Sp.sameB
  simp only [Array.mk.injEq, List.cons.injEq, Value.int.injEq, Value.bool.injEq, true_and, and_true, Bool.and_eq_true, beq_iff_eq, List.all_eq_true, List.mem_range, Bool.and_true]
  constructor
  · rintro ⟨h1, h2, h3, h4, h5, ⟨s1, s2, s3, s4, s5, s6, hs, s7, s8, s9⟩, h6, h7, h8, h9, h10⟩
    exact ⟨h1, h2, h3, h4, h5, s1, s2, s3, s4, s5, s6, hs 0 (by decide), hs 1 (by decide), hs 2 (by decide), hs 3 (by decide), hs 4 (by decide), hs 5 (by decide), hs 6 (by decide), hs 7 (by decide), hs 8 (by decide), hs 9 (by decide), hs 10 (by decide), hs 11 (by decide), hs 12 (by decide), hs 13 (by decide), hs 14 (by decide), hs 15 (by decide), s7, s8, s9, h6, h7, h8, h9, h10⟩
  · rintro ⟨h1, h2, h3, h4, h5, s1, s2, s3, s4, s5, s6, c0, c1, c2, c3, c4, c5, c6, c7, c8, c9, c10, c11, c12, c13, c14, c15, s7, s8, s9, h6, h7, h8, h9, h10⟩
    refine ⟨h1, h2, h3, h4, h5, ⟨s1, s2, s3, s4, s5, s6, fun k hk => ?_, s7, s8, s9⟩, h6, h7, h8, h9, h10⟩
    have h : k = 0 ∨ k = 1 ∨ k = 2 ∨ k = 3 ∨ k = 4 ∨ k = 5 ∨ k = 6 ∨ k = 7 ∨ k = 8 ∨ k = 9 ∨ k = 10 ∨ k = 11 ∨ k = 12 ∨ k = 13 ∨ k = 14 ∨ k = 15 := by omega
    rcases h with rfl | rfl | rfl | rfl | rfl | rfl | rfl | rfl | rfl | rfl | rfl | rfl | rfl | rfl | rfl | rfl <;> assumption
theorem same_self (x : Cm) : x.same x = true := (same_iff x x).2 rfl
end Cm
theorem part27 (x : Cm) (W : World) : (part 27 x.cells 5).run Try.prog W = .ok (.agg x.spec.cells) W := part_row (n := 25) (by rw [Try.underlying27]) (by kernel_rfl) (by kernel_rfl) rfl
set_option maxRecDepth 100000 in
theorem equal30 (x y : Cm) (W : World) : (Op.equalIn 10000 30 (.agg x.cells) (.agg y.cells)).run Try.prog W = .ok (x.same y) W := by
  show (Op.equalIn (9999 + 1) 30 (.agg x.cells) (.agg y.cells)).run Try.prog W = _
  rw [run_equalIn_struct W 9999 30 _ _ (by kernel_rfl) (by kernel_rfl)]
  refine eqF_int (d := 9998) (by decide) Try.underlying22 rfl rfl ?_
  refine eqF_int (d := 9998) (by decide) Try.underlying23 rfl rfl ?_
  refine eqF_int (d := 9998) (by decide) Try.underlying23 rfl rfl ?_
  refine eqF_int (d := 9998) (by decide) Try.underlying24 rfl rfl ?_
  refine eqF_int (d := 9998) (by decide) Try.underlying2 rfl rfl ?_
  refine eqF_cons (by decide) (part27 x W) (part27 y W) (equal27 x.spec y.spec W) ?_
  refine eqF_bool (d := 9998) (by decide) Try.underlying4 rfl rfl ?_
  refine eqF_bool (d := 9998) (by decide) Try.underlying4 rfl rfl ?_
  refine eqF_int (d := 9998) (by decide) Try.underlying28 rfl rfl ?_
  refine eqF_int (d := 9998) (by decide) Try.underlying2 rfl rfl ?_
  refine eqF_int (d := 9998) (by decide) Try.underlying2 rfl rfl ?_
  rfl
theorem eql30 (x y : Cm) (W : World) : (binOp .eql 30 (.agg x.cells) (.agg y.cells)).run Try.prog W = .ok (.bool (x.same y)) W := by
  rw [run_eql_struct, equal30]; rfl
theorem guard30 (op : BinOp) (x y : Operand) (xs ys : Array Value) (W : World) : (eqGuard op 30 x y (.agg xs) (.agg ys)).run Try.prog W = .ok () W :=
  run_eqGuard_agg W op 30 x y xs ys (by kernel_rfl)
theorem bare_w (x : Cm) (w : World) (h1 : 1 ≤ x.kind) (h2 : x.kind ≤ 14) : Calls Try.prog 53 #[.agg x.cells] w fun e w' => e = .returned (.agg x.bare.cells) ∧ Below w.heap.size w w' := by
  obtain ⟨k, a, n, u, m, s, o, b, z, p, q⟩ := x
  dsimp only at *
  have hk : k = 1 ∨ k = 2 ∨ k = 3 ∨ k = 4 ∨ k = 5 ∨ k = 6 ∨ k = 7 ∨ k = 8 ∨ k = 9 ∨ k = 10 ∨ k = 11 ∨ k = 12 ∨ k = 13 ∨ k = 14 := by omega
  rcases hk with rfl | rfl | rfl | rfl | rfl | rfl | rfl | rfl | rfl | rfl | rfl | rfl | rfl | rfl
  · exact bare_1_w a n u m s o b z p q w _ rfl
  · exact bare_2_w a n u m s o b z p q w _ rfl
  · exact bare_3_w a n u m s o b z p q w _ rfl
  · exact bare_4_w a n u m s o b z p q w _ rfl
  · exact bare_5_w a n u m s o b z p q w _ rfl
  · exact bare_6_w a n u m s o b z p q w _ rfl
  · exact bare_7_w a n u m s o b z p q w _ rfl
  · exact bare_8_w a n u m s o b z p q w _ rfl
  · exact bare_9_w a n u m s o b z p q w _ rfl
  · exact bare_10_w a n u m s o b z p q w _ rfl
  · exact bare_11_w a n u m s o b z p q w _ rfl
  · exact bare_12_w a n u m s o b z p q w _ rfl
  · exact bare_13_w a n u m s o b z p q w _ rfl
  · exact bare_14_w a n u m s o b z p q w _ rfl
/-- May it be? -/
def Cm.mayB (x : Cm) : Bool := decide (1 ≤ x.kind) && (decide (x.kind ≤ 14) && (x.same x.bare && (decide (x.kind ≠ 3) || x.spec.mayB)))
/-- A command's cells lie at block B. -/
def CcAt (w : World) (B : Nat) (cs : Array Value) : Prop := w.heap[B]? = some (.cells cs 30)
theorem CcAt.new (w : World) (cs : Array Value) : CcAt (w.alloc (.cells cs 30)) w.heap.size cs := heap_alloc_new w _
theorem CcAt.lt {w : World} {B : Nat} {cs : Array Value} (h : CcAt w B cs) : B < w.heap.size := (Array.getElem?_eq_some_iff.1 h).1
theorem CcAt.keeps {w w' : World} {B : Nat} {cs : Array Value} (h : CcAt w B cs) (hk : Keeps w w') : CcAt w' B cs := by unfold CcAt; rw [hk B h.lt]; exact h
theorem CcAt.at {w : World} {B : Nat} {cs : Array Value} (h : CcAt w B cs) (i : Nat) : w.cell? ⟨B, i, none⟩ = cs[i]? := cell_of_row _ _ _ _ _ _ h
theorem load_cc {o : Oper} {e : Operand → Value} {W : World} {N : Nat} {cs : Array Value} (x : Operand) (ho : o.op = .load 30 x) (hx : e x = .pointer (some ⟨N, 0, none⟩)) (h : CcAt W N cs) (hs : cs.size = 35) :
    (execOp e o).run Try.prog W = .ok (.value (.agg cs)) W := by
  have hl := run_loadVar_row (P := Try.prog) W N 30 30 cs (0, 0) _ h Try.underlying30 rfl (show _ = some cs.size by rw [hs]; kernel_rfl)
  unfold execOp
  simp only [ho, hx, Instr.loadAt, Instr.sureAddr, Sem.run_bind, Sem.run_pure, Result.andThen_ok, hl]
theorem wpList_load_cc {ops : Array Oper} {rest : List Oper} {o : Oper} {a : Act} {w : World} {Q : Exit → Act → World → Prop} {B : Nat} {cs : Array Value} (hw : Region.wanted o (yielded ops a.tmps) = true) (x : Operand) (ho : o.op = .load 30 x)
    (hx : a.eval x = .pointer (some ⟨B, 0, none⟩)) (h : CcAt w B cs) (hs : cs.size = 35) (k : wpList Try.prog ops Q rest (a.put o.dst (.agg cs)) w) : wpList Try.prog ops Q (o :: rest) a w := by
  unfold wpList
  rw [if_pos hw]
  exact .inl (wp_load_row 30 x ho B hx 30 cs (0, 0) _ h Try.underlying30 rfl (show _ = some cs.size by rw [hs]; kernel_rfl) k)
theorem CcAt.spec {w : World} {B : Nat} {x : Cm} (h : CcAt w B x.cells) : w.rangeAt B 5 x.spec.cells.toList := fun j v hv => by
  rw [h.at]; exact cmc_spec _ _ _ _ _ _ _ _ _ _ _ j v hv
/-- The data of a command, loaded whole. -/
theorem load_spec {o : Oper} {e : Operand → Value} {W : World} {N : Nat} {x : Cm} (y : Operand) (ho : o.op = .load 27 y) (hx : e y = .pointer (some ⟨N, 5, none⟩)) (h : CcAt W N x.cells) :
    (execOp e o).run Try.prog W = .ok (.value (.agg x.spec.cells)) W := by
  have hl := run_loadVar_mid (P := Try.prog) W N 5 27 x.spec.cells.toList _ h.spec Try.underlying27 rfl (show _ = some 25 by kernel_rfl)
  rw [Array.toArray_toList] at hl
  unfold execOp
  simp only [ho, hx, Instr.loadAt, Instr.sureAddr, Sem.run_bind, Sem.run_pure, Result.andThen_ok, hl]
end Go.Proofs.Ytoflehlkacofjaa
