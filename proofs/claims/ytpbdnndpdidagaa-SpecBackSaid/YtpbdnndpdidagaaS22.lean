/- Data of a contract are alike to themselves. -/
import Derived.Test.YtpbdnndpdidagaaS21
import Derived.DeepKeys
namespace Go.Proofs.Ytpbdnndpdidagaa
open Go.ChangeShapes Go.WideShapes Go.ChangeAt Go.RowKit
set_option linter.unusedVariables false

def isInt : Option Value → Bool | some (.int _ _) => true | _ => false
def intT (P : Program) (t : TypeId) : Bool := match P.underlying t with | some (.int _) => true | _ => false
/-- A part that is a number, or a row of numbers. -/
def selfB (P : Program) (xs : Array Value) (t : TypeId) (off : Nat) : Bool :=
  match P.underlying t with
  | some (.int _) => isInt xs[off]?
  | some (.array n e) => (P.info? t).isSome && ((P.info? e).isSome && (intT P e && (List.range n).all fun i => isInt (xs.extract off (off + P.cellsOf t))[i * P.cellsOf e]?))
  | _ => false
theorem isInt_some {x : Option Value} (h : isInt x = true) : ∃ q n, x = some (.int q n) := by
  unfold isInt at h
  split at h
  · exact ⟨_, _, rfl⟩
  · cases h
theorem int_self {P : Program} {w : World} {xs : Array Value} {t : TypeId} {off : Nat} {k : IntKind} (d : Nat) (hu : P.underlying t = some (.int k)) (h : isInt xs[off]? = true) :
    ∃ a, (part t xs off).run P w = .ok a w ∧ (Op.equalIn (d + 1) t a a).run P w = .ok true w := by
  obtain ⟨q, n, hx⟩ := isInt_some h
  exact ⟨_, run_part_plain w (by simp [Program.plainKey, hu]) hx, by rw [run_equalIn_int w d t q k n n hu]; simp⟩
theorem items_self {P : Program} {w : World} {xs : Array Value} {e : TypeId} {k : IntKind} (d c : Nat) (hu : P.underlying e = some (.int k)) : ∀ is : List Nat, (∀ i ∈ is, isInt xs[i * c]? = true) → (Op.eqItems (d + 1) e c xs xs is).run P w = .ok true w
  | [], _ => by simp [Op.eqItems]
  | i :: is, h => by
    obtain ⟨a, h1, h2⟩ := int_self (w := w) d hu (h i (by simp))
    simp only [Op.eqItems, Sem.run_bind, h1, h2, Result.andThen_ok, Bool.not_true, Bool.false_eq_true, if_false]
    exact items_self d c hu is (fun j hj => h j (by simp [hj]))
theorem part_self {P : Program} {w : World} {xs : Array Value} {t : TypeId} {off : Nat} (d : Nat) (h : selfB P xs t off = true) :
    ∃ a, (part t xs off).run P w = .ok a w ∧ (Op.equalIn (d + 2) t a a).run P w = .ok true w := by
  unfold selfB at h
  split at h
  · rename_i k hu; exact int_self (d + 1) hu h
  · rename_i n e hu
    simp only [Bool.and_eq_true, List.all_eq_true] at h
    obtain ⟨h1, h2, h3, h4⟩ := h
    obtain ⟨i, hi⟩ := Option.isSome_iff_exists.1 h1
    obtain ⟨j, hj⟩ := Option.isSome_iff_exists.1 h2
    unfold intT at h3
    split at h3
    · rename_i k hk
      refine ⟨.agg (xs.extract off (off + P.cellsOf t)), ?_, ?_⟩
      · simp [part, isAgg, run_underlying hu, run_sizeOf w hi]
      · rw [run_equalIn_array w (d + 1) _ _ hu hj]
        exact items_self d _ hk _ h4
    · cases h3
  · cases h
theorem fields_self {P : Program} {w : World} {xs : Array Value} (d : Nat) : ∀ fs : List Field, (fs.all fun f => selfB P xs f.type f.offset) = true → (Op.eqFields (d + 2) xs xs fs).run P w = .ok true w
  | [], _ => by simp [Op.eqFields]
  | f :: fs, h => by
    simp only [List.all_cons, Bool.and_eq_true] at h
    obtain ⟨a, h1, h2⟩ := part_self (w := w) d h.1
    have ih := fields_self (w := w) d fs h.2
    unfold Op.eqFields
    split
    · simp only [Sem.run_bind, h1, h2, Result.andThen_ok, Bool.not_true, Bool.false_eq_true, if_false]
      exact ih
    · exact ih
theorem equal66 (s : Sp) (W : World) : (Op.equal 66 (.agg s.cells) (.agg s.cells)).run Try.prog W = .ok true W := by
  show (Op.equalIn (9999 + 1) 66 (.agg s.cells) (.agg s.cells)).run Try.prog W = _
  rw [run_equalIn_struct W 9999 66 _ _ (by kernel_rfl) (by kernel_rfl)]
  exact fields_self 9997 _ (by kernel_rfl)
theorem eql66 (s : Sp) (W : World) : (binOp .eql 66 (.agg s.cells) (.agg s.cells)).run Try.prog W = .ok (.bool true) W := by
  simp only [binOp, Sem.run_bind, equal66, Result.andThen_ok, Sem.run_pure]
theorem neq66 (s : Sp) (W : World) : (binOp .neq 66 (.agg s.cells) (.agg s.cells)).run Try.prog W = .ok (.bool false) W := by
  simp only [binOp, Sem.run_bind, equal66, Result.andThen_ok, Sem.run_pure, Bool.not_true]
theorem guard66 (op : BinOp) (x y : Operand) (xs ys : Array Value) (W : World) : (eqGuard op 66 x y (.agg xs) (.agg ys)).run Try.prog W = .ok () W :=
  run_eqGuard_agg W op 66 x y xs ys (by kernel_rfl)
end Go.Proofs.Ytpbdnndpdidagaa
