/- Which replies are looked at; what is known. -/
import Derived.Test.YtoflehlkacofjaaQfA12
import Derived.Laws.Cover1
namespace Go.Proofs.Ytoflehlkacofjaa
open Go.ChangeShapes Go.WideShapes Go.ChangeAt Go.RowKit
set_option linter.unusedVariables false
def Rp.most (x : Rp) : Nat := max (max x.trades.length x.gone.length) x.accounts.length
/-- What is known: a deposit, and an error. -/
def dep : Cm := ⟨1, 1, 0, 0, 5, Sp.zero, false, false, 0, 0, 0⟩
def err7 : Rp := ⟨7, 0, 0, 0, [], [], []⟩
theorem dep_ok : dep.ok := by
  refine ⟨by decide, by decide, by decide, by decide, by unfold Sp.i64; decide, ?_, by decide, by unfold Sp.i64; decide, by unfold Sp.i64; decide⟩
  refine ⟨by decide, by decide, ?_, ?_, ?_, ?_, fun i => (show Sp.i64 0 from ?_), ?_, by decide, ?_⟩ <;> (unfold Sp.i64; decide)
theorem dep_may : dep.mayB = true := by
  unfold Cm.mayB
  rw [(Cm.same_iff dep dep.bare).2 (by rfl)]
  rfl
theorem dep_form : dep.form = [1, 1, 10] := by
  have h1 : Form.nat 1 = [1] := Form.nat_small (by decide)
  have h2 : Form.nat (Form.fold 5) = [10] := Form.nat_small (by decide)
  rw [show dep = Cm.mk 1 1 0 0 5 Sp.zero false false 0 0 0 from rfl, form_1, h1, h2]; rfl
theorem err7_A (w : World) : RpA w (.slice none 0 0) (.slice none 0 0) (.slice none 0 0) err7 :=
  ⟨RdC.nil _ _, RdC.nil _ _, RdC.nil _ _, ⟨by unfold Sp.i64; decide, by decide, by unfold Sp.i64; decide, by unfold Sp.i64; decide, (fun t h => by cases h), (fun n h => by cases h), (fun n h => by cases h), by decide, by decide, by decide⟩⟩
theorem err7_may : err7.mayB = true := by decide
theorem err7_form : err7.form = [7] := by
  unfold Rp.form
  rw [if_neg (by decide)]
  exact Form.nat_small (by decide)
set_option maxRecDepth 100000 in
set_option maxHeartbeats 1600000 in
theorem known9_w (w : World) : Calls Try.prog 9 #[] w fun e w' => e = .returned (.bool true) ∧ Below w.heap.size w w' := by
  have HC := Lib.hid (show Calls Try.prog 10 #[.agg dep.cells] w (CmdY w [1, 1, 10]) from by rw [← dep_form]; exact cmd_yes_w dep w dep_ok dep_may)
  have HR := Lib.hid (fun W => (show Calls Try.prog 11 #[.agg (rpc err7 (.slice none 0 0) (.slice none 0 0) (.slice none 0 0))] W (CmdY W [7]) from by rw [← err7_form]; exact reply_yes_w err7 _ _ _ W (err7_A W) err7_may))
  go_enter Try.func9, Try.ntmps9
  go_wp2_with (first
    | (go_at_call 10; (refine (HC.out).mono ?_); rintro r w1 ⟨⟨p1, n1, c1, rfl, hn1, ho1⟩, hB⟩; have HB1 := Lib.hid hB; have HO1 := Lib.hid ho1; have hc1 := run_convert_str (P := Try.prog) ho1.rd 39 5 9 Try.underlying39 Try.underlying5 Try.underlying9; clear hB ho1 hn1)
    | (go_at_call 11; (refine (HR.out _).mono ?_); rintro r w2 ⟨⟨p2, n2, c2, rfl, hn2, ho2⟩, hB⟩; have HB2 := Lib.hid (HB1.out.trans (hB.mono HB1.out.size)); have hc2 := run_convert_str (P := Try.prog) ho2.rd 39 5 9 Try.underlying39 Try.underlying5 Try.underlying9; have hc1 := run_convert_str (P := Try.prog) (HO1.out.keeps (show Keeps w1 w2 from hB.block)).rd 39 5 9 Try.underlying39 Try.underlying5 Try.underlying9; clear hB ho2 hn2))
  go_ret
  exact ⟨rfl, HB2.out⟩
end Go.Proofs.Ytoflehlkacofjaa
